/- A loop over a map that is not written meanwhile: each entry once, in some order. -/
import Derived.Test.YtkakfmcjiabjjaaGreatDoorSepG
import Derived.Maps.RangeRun
namespace Go.Sep
set_option linter.unusedVariables false
set_option linter.unusedSimpArgs false
set_option linter.unusedSectionVars false
set_option linter.unnecessarySimpa false
open Go
variable [Rnd]

def itO (b : Nat) (m : Nat) (since : Nat) (seen : Array Nat) (last : Nat) : HProp := held true b (.mapIter (some m) since seen last)

def unseen (seen : List Nat) (es : List MapEntry) : List MapEntry := es.filter fun e => !seen.contains e.born

/-- The map m in block b is ranged over by the iterator in block it; todo is still to come, cur the entry at hand. -/
def rangeI (p : Bool) (b it : Nat) (m todo : List (Int × Value)) (cur : Option (Int × Value)) : HProp :=
  exL (ι := List MapEntry × Nat × List Nat) (fun x => Rep x.1 m ∧ Born x.1 x.2.1 ∧ Rep (unseen x.2.2 x.1) todo ∧
      (∀ k v, cur = some (k, v) → ∃ e ∈ x.1, x.2.2.getLast? = some e.born ∧ e.key = .int .i64 k ∧ e.val = v))
    (fun x => [mapO p b x.1 x.2.1, itO it b x.2.1 x.2.2.toArray x.2.1])

theorem Rep.length {es : List MapEntry} {m : List (Int × Value)} (h : Rep es m) : es.length = m.length := by
  induction h with
  | nil => rfl
  | cons _ _ _ ih => simp [ih]
theorem Rep.get {es : List MapEntry} {m : List (Int × Value)} (h : Rep es m) : ∀ {i : Nat} {e : MapEntry}, es[i]? = some e → ∃ k, e.key = .int .i64 k ∧ m[i]? = some (k, e.val) := by
  induction h with
  | nil => intro i e h; simp at h
  | @cons e0 k v es m h1 h2 _ ih =>
    intro i e h
    cases i with
    | zero => simp at h; subst h; exact ⟨k, h1, by simp [h2]⟩
    | succ i => simp at h; simpa using ih h
theorem Rep.erase {es : List MapEntry} {m : List (Int × Value)} (h : Rep es m) : ∀ i, Rep (es.eraseIdx i) (m.eraseIdx i) := by
  induction h with
  | nil => intro i; simp; exact .nil
  | @cons e0 k v es m h1 h2 h3 ih =>
    intro i
    cases i with
    | zero => simpa using h3
    | succ i => simp only [List.eraseIdx_cons_succ]; exact .cons h1 h2 (ih i)

theorem filter_ne_eraseIdx {l : List MapEntry} (hn : (l.map (·.born)).Nodup) : ∀ {i : Nat} {e : MapEntry}, l[i]? = some e → l.filter (fun x => !(x.born == e.born)) = l.eraseIdx i := by
  induction l with
  | nil => intro i e h; simp at h
  | cons a l ih =>
    intro i e h
    simp only [List.map_cons, List.nodup_cons] at hn
    cases i with
    | zero =>
      simp at h
      subst h
      simp only [List.eraseIdx_cons_zero]
      rw [List.filter_cons_of_neg (by simp)]
      rw [List.filter_eq_self]
      intro x hx
      have : x.born ≠ a.born := fun e => hn.1 (by rw [← e]; exact List.mem_map.2 ⟨x, hx, rfl⟩)
      simpa using this
    | succ i =>
      simp at h
      have hne : a.born ≠ e.born := fun e' => hn.1 (by rw [e']; exact List.mem_map.2 ⟨e, List.mem_of_getElem? h, rfl⟩)
      rw [List.filter_cons_of_pos (by simpa using hne), List.eraseIdx_cons_succ, ih hn.2 h]

theorem unseen_snoc (seen : List Nat) (es : List MapEntry) (b : Nat) : unseen (seen ++ [b]) es = (unseen seen es).filter (fun x => !(x.born == b)) := by
  unfold unseen
  rw [List.filter_filter]
  congr 1
  funext x
  by_cases h1 : x.born ∈ seen <;> by_cases h2 : x.born = b <;> simp [h1, h2]

section
variable {P : Program} {g : World} {n : Nat} {K : List (Nat × Value)} {Ps R : List HProp} {d : Option Tmp} {T : TypeId} {pos : String} {af : Array Edge} {gd : Option (Nat × Bool)} {w : World}

theorem eff_range {t kt et : TypeId} {x : Operand} {p : Bool} {b : Nat} {m : List (Int × Value)} (hx : ev K x = some (.map (some b))) (hu : ∀ w, Sem.run P (underlying t) w = .ok (.map kt et) w) (hs : Sel (mapI p b m) Ps R) :
    Eff P g n ⟨d, .range t x, T, pos, af, gd⟩ K Ps Nat (fun _ => True) (fun it => .pointer (some ⟨it, 0, none⟩)) (fun it => rangeI p b it m m none :: R) := fun a w ka s next Q h => by
  obtain ⟨es, c, hr, hb, s'⟩ := (s.sel1 hs).mapI
  have hg : (getObj b).run P w = .ok (.map es.toArray c) w := by simp [getObj, Sem.run, s'.mapGet]
  unfold Oper.wp
  have e : (execOp a.eval ⟨d, .range t x, T, pos, af, gd⟩).run P w = .ok (.value (.pointer (some ⟨w.heap.size, 0, none⟩))) { w with heap := w.heap.push (.mapIter (some b) c #[] c) } := by
    simp [execOp, ka.ev hx, Instr.range, hu, hg]
  rw [e]
  refine h w.heap.size _ trivial ?_
  have s2 := s'.new (o := .mapIter (some b) c #[] c) (w' := { w with heap := w.heap.push (.mapIter (some b) c #[] c) }) rfl rfl rfl rfl
  refine Sat.exShut (ι := List MapEntry × Nat × List Nat) (es, c, []) ⟨hr, hb, ?_, by simp⟩ (s2.perm (.swap _ _ _))
  have : unseen [] es = es := by unfold unseen; rw [List.filter_eq_self]; simp
  rw [this]; exact hr

theorem Sat.rangeEnd {p : Bool} {b it : Nat} {m todo : List (Int × Value)} {cur : Option (Int × Value)} (s : Sat g w (rangeI p b it m todo cur :: Ps)) : Sat g w (Sep.mapI p b m :: Ps) := by
  obtain ⟨⟨es, c, seen⟩, ⟨hr, hb, _, _⟩, s'⟩ := s.exOpen
  refine Sat.exShut (ι := List MapEntry × Nat) (m := fun x => [mapO p b x.1 x.2]) (es, c) ⟨hr, hb⟩ ?_
  exact Sat.drop (l := [itO it b c seen.toArray c]) (s'.perm (.swap _ _ _))

theorem eff_next {x : Operand} {p : Bool} {b it : Nat} {m todo : List (Int × Value)} {cur : Option (Int × Value)} (hx : ev K x = some (.pointer (some ⟨it, 0, none⟩))) (hs : Sel (rangeI p b it m todo cur) Ps R) :
    Eff P g n ⟨d, .next x false, T, pos, af, gd⟩ K Ps (Option (Nat × Int × Value)) (fun r => match r with | none => todo = [] | some (i, k, v) => todo[i]? = some (k, v)) (fun r => match r with | none => .tuple #[.bool false] | some (_, k, v) => .tuple #[.bool true, .int .i64 k, v])
      (fun r => match r with | none => rangeI p b it m todo cur :: R | some (i, k, v) => rangeI p b it m (todo.eraseIdx i) (some (k, v)) :: R) := fun a w ka s next Q h => by
  have s0 := s.sel1 hs
  obtain ⟨⟨es, c, seen⟩, ⟨hr, hb, ht, hc⟩, s'⟩ := s0.exOpen
  simp only [List.cons_append, List.nil_append] at s' hr hb ht hc
  have s'' : Sat g w (itO it b c seen.toArray c :: mapO p b es c :: R) := s'.perm (.swap _ _ _)
  have hhi : w.heap[it]? = some (.mapIter (some b) c seen.toArray c) := Sat.get s''
  unfold Oper.wp
  have hleft : leftOf es.toArray seen.toArray = (unseen seen es).toArray := by
    unfold leftOf unseen
    simp
  rcases run_next_at (P := P) w T it b c c seen.toArray es.toArray c hhi s'.mapGet (by simpa using hb.lt) (Nat.le_refl _) with ⟨h0, hrun⟩ | ⟨e, he, w1, hw1, hrun⟩
  · have e' : (execOp a.eval ⟨d, .next x false, T, pos, af, gd⟩).run P w = .ok (.value (.tuple #[.bool false])) w := by
      simp [execOp, ka.ev hx, hrun]
    rw [e']
    refine h none _ ?_ s0
    rw [hleft] at h0
    have : unseen seen es = [] := by simpa using h0
    rw [this] at ht
    cases ht
    rfl
  · have e' : (execOp a.eval ⟨d, .next x false, T, pos, af, gd⟩).run P w = .ok (.value (.tuple #[.bool true, e.key, e.val])) (ChangeMaps.setBlock w1 it (.mapIter (some b) c (seen.toArray.push e.born) c)) := by
      simp [execOp, ka.ev hx, hrun]
    rw [e']
    rw [hleft] at he
    obtain ⟨i, hi⟩ := List.getElem?_of_mem (by simpa using he : e ∈ unseen seen es)
    obtain ⟨k, hk1, hk2⟩ := ht.get hi
    rw [hk1]
    have hmem : e ∈ es := (List.mem_filter.1 (by simpa using he : e ∈ unseen seen es)).1
    refine h (some (i, k, e.val)) _ hk2 ?_
    have hal : w1.heap = w.heap ∧ w1.os = w.os ∧ w1.tape = w.tape ∧ w1.output = w.output := by rcases hw1 with rfl | rfl <;> exact ⟨rfl, rfl, rfl, rfl⟩
    have hlt : it < w.heap.size := Sat.lt s''
    have s3 : Sat g (ChangeMaps.setBlock w1 it (.mapIter (some b) c (seen.toArray.push e.born) c)) (itO it b c (seen ++ [e.born]).toArray c :: mapO p b es c :: R) := by
      refine Sat.put s'' hal.2.1 hal.2.2.1 hal.2.2.2 ?_ ?_ ?_
      · simp [ChangeMaps.setBlock, hal.1]
      · simp [ChangeMaps.setBlock, hal.1, hlt]
      · intro c' hc'
        simp only [ChangeMaps.setBlock, hal.1]
        rw [Array.getElem?_setIfInBounds, if_neg (fun e => hc' (Eq.symm e))]
    refine Sat.exShut (ι := List MapEntry × Nat × List Nat) (m := fun x => [mapO p b x.1 x.2.1, itO it b x.2.1 x.2.2.toArray x.2.1]) (es, c, seen ++ [e.born]) ⟨hr, hb, ?_, ?_⟩ (s3.perm (.swap _ _ _))
    · have hn : ((unseen seen es).map (·.born)).Nodup := hb.nodup.sublist (List.Sublist.map _ List.filter_sublist)
      show Rep (unseen (seen ++ [e.born]) es) (todo.eraseIdx i)
      rw [unseen_snoc, filter_ne_eraseIdx hn hi]
      exact ht.erase i
    · intro k' v' hkv
      simp only [Option.some.injEq, Prod.mk.injEq] at hkv
      obtain ⟨rfl, rfl⟩ := hkv
      exact ⟨e, hmem, by simp, hk1, rfl⟩

theorem yld_entry {x : Operand} {p : Bool} {b it : Nat} {m todo : List (Int × Value)} {k : Int} {v : Value} (hx : ev K x = some (.pointer (some ⟨it, 0, none⟩))) (hs : Sel (rangeI p b it m todo (some (k, v))) Ps R) :
    Yld P g n ⟨d, .entry x, T, pos, af, gd⟩ K Ps (.tuple #[.int .i64 k, v]) := fun a w ka s => by
  have s0 := s.sel1 hs
  obtain ⟨⟨es, c, seen⟩, ⟨hr, hb, ht, hc⟩, s'⟩ := s0.exOpen
  simp only [List.cons_append, List.nil_append] at s' hr hb ht hc
  have s'' : Sat g w (itO it b c seen.toArray c :: mapO p b es c :: R) := s'.perm (.swap _ _ _)
  have hhi : w.heap[it]? = some (.mapIter (some b) c seen.toArray c) := Sat.get s''
  obtain ⟨e, he, hl, hk, hv⟩ := hc k v rfl
  obtain ⟨seen', rfl⟩ : ∃ l, seen = l ++ [e.born] := by
    obtain ⟨h1, h2⟩ := List.getLast?_eq_some_iff.1 hl
    exact ⟨_, h2⟩
  have hrun := run_entry_at (P := P) w it b c seen'.toArray es.toArray c e (by simpa using hhi) s'.mapGet (by simpa using he) (by simpa using hb.nodup)
  rw [hk, hv] at hrun
  simp [execOp, ka.ev hx, hrun]

end
end Go.Sep
