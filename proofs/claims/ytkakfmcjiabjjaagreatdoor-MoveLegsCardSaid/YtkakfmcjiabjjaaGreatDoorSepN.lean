/- A loop over a map by a law on its keys. -/
import Derived.Test.YtkakfmcjiabjjaaGreatDoorSepM
namespace Go.Sep
set_option linter.unusedVariables false
set_option linter.unusedSimpArgs false
set_option linter.unusedSectionVars false
set_option linter.unnecessarySimpa false
open Go
variable [rn : Rnd]
/-- The map m in block b is ranged over by the iterator in block it; todo is still to come, cur the entry at hand. -/
def rangeK {α : Type} (enc : α → Value) (p : Bool) (b it : Nat) (m todo : List (α × Value)) (cur : Option (α × Value)) : HProp :=
  exL (ι := List MapEntry × Nat × List Nat) (fun x => RepK enc x.1 m ∧ Born x.1 x.2.1 ∧ RepK enc (unseen x.2.2 x.1) todo ∧
      (∀ k v, cur = some (k, v) → ∃ e ∈ x.1, x.2.2.getLast? = some e.born ∧ e.key = enc k ∧ e.val = v))
    (fun x => [mapO p b x.1 x.2.1, itO it b x.2.1 x.2.2.toArray x.2.1])

omit rn in
theorem RepK.get {α : Type} {enc : α → Value} {es : List MapEntry} {m : List (α × Value)} (h : RepK enc es m) {i : Nat} {e : MapEntry} (he : es[i]? = some e) : ∃ k, e.key = enc k ∧ m[i]? = some (k, e.val) := by
  have := congrArg (·[i]?) h
  simp only [List.getElem?_map, he, Option.map_some] at this
  cases hm : m[i]? with
  | none => rw [hm] at this; cases this
  | some x =>
    rw [hm] at this
    simp only [Option.map_some, Option.some.injEq, Prod.mk.injEq] at this
    exact ⟨x.1, this.1, by rw [this.2]⟩
omit rn in
theorem RepK.erase {α : Type} {enc : α → Value} {es : List MapEntry} {m : List (α × Value)} (h : RepK enc es m) (i : Nat) : RepK enc (es.eraseIdx i) (m.eraseIdx i) := by
  unfold RepK at h ⊢
  rw [map_erase, map_erase, h]

section
variable {P : Program} {g : World} {n : Nat} {K : List (Nat × Value)} {Ps R : List HProp} {d : Option Tmp} {T : TypeId} {pos : String} {af : Array Edge} {gd : Option (Nat × Bool)} {w : World} {α : Type} [DecidableEq α] {enc : α → Value}

theorem eff_rangeK {t kt et : TypeId} {x : Operand} {p : Bool} {b : Nat} {m : List (α × Value)} (hx : ev K x = some (.map (some b))) (hu : ∀ w, Sem.run P (underlying t) w = .ok (.map kt et) w) (hs : Sel (mapK enc p b m) Ps R) :
    Eff P g n ⟨d, .range t x, T, pos, af, gd⟩ K Ps Nat (fun _ => True) (fun it => .pointer (some ⟨it, 0, none⟩)) (fun it => rangeK enc p b it m m none :: R) := fun a w ka s next Q h => by
  obtain ⟨es, c, hr, hb, s'⟩ := (s.sel1 hs).mapK
  have hg : (getObj b).run P w = .ok (.map es.toArray c) w := by simp [getObj, Sem.run, s'.mapGet]
  unfold Oper.wp
  have e : (execOp a.eval ⟨d, .range t x, T, pos, af, gd⟩).run P w = .ok (.value (.pointer (some ⟨w.heap.size, 0, none⟩))) { w with heap := w.heap.push (.mapIter (some b) c #[] c) } := by
    simp [execOp, ka.ev hx, Instr.range, hu, hg]
  rw [e]
  refine h w.heap.size _ trivial ?_
  have s2 := s'.new (o := .mapIter (some b) c #[] c) (w' := { w with heap := w.heap.push (.mapIter (some b) c #[] c) }) rfl rfl rfl rfl
  refine Sat.exShut (ι := List MapEntry × Nat × List Nat) (es, c, []) ⟨hr, hb, ?_, by simp⟩ (s2.perm (.swap _ _ _))
  have : unseen [] es = es := by unfold unseen; rw [List.filter_eq_self]; simp
  rw [this]; exact hr

omit rn in
theorem Sat.rangeEndK {p : Bool} {b it : Nat} {m todo : List (α × Value)} {cur : Option (α × Value)} (s : Sat g w (rangeK enc p b it m todo cur :: Ps)) : Sat g w (Sep.mapK enc p b m :: Ps) := by
  obtain ⟨⟨es, c, seen⟩, ⟨hr, hb, _, _⟩, s'⟩ := s.exOpen
  refine Sat.exShut (ι := List MapEntry × Nat) (m := fun x => [mapO p b x.1 x.2]) (es, c) ⟨hr, hb⟩ ?_
  exact Sat.drop (l := [itO it b c seen.toArray c]) (s'.perm (.swap _ _ _))

theorem eff_nextK {x : Operand} {p : Bool} {b it : Nat} {m todo : List (α × Value)} {cur : Option (α × Value)} (hx : ev K x = some (.pointer (some ⟨it, 0, none⟩))) (hs : Sel (rangeK enc p b it m todo cur) Ps R) :
    Eff P g n ⟨d, .next x false, T, pos, af, gd⟩ K Ps (Option (Nat × α × Value)) (fun r => match r with | none => todo = [] | some (i, k, v) => todo[i]? = some (k, v)) (fun r => match r with | none => .tuple #[.bool false] | some (_, k, v) => .tuple #[.bool true, enc k, v])
      (fun r => match r with | none => rangeK enc p b it m todo cur :: R | some (i, k, v) => rangeK enc p b it m (todo.eraseIdx i) (some (k, v)) :: R) := fun a w ka s next Q h => by
  have s0 := s.sel1 hs
  obtain ⟨⟨es, c, seen⟩, ⟨hr, hb, ht, hc⟩, s'⟩ := s0.exOpen
  simp only [List.cons_append, List.nil_append] at s' hr hb ht hc
  have s'' : Sat g w (itO it b c seen.toArray c :: mapO p b es c :: R) := s'.perm (.swap _ _ _)
  have hhi : w.heap[it]? = some (.mapIter (some b) c seen.toArray c) := Sat.get s''
  unfold Oper.wp
  have hleft : leftOf es.toArray seen.toArray = (unseen seen es).toArray := by
    unfold leftOf unseen
    simp
  rcases run_next_at (P := P) w T it b c c seen.toArray es.toArray c hhi s'.mapGet (by simpa using hb.lt) (Nat.le_refl _) with ⟨h0, hrun⟩ | ⟨e, he, w1, hw1, hrun⟩
  · have e' : (execOp a.eval ⟨d, .next x false, T, pos, af, gd⟩).run P w = .ok (.value (.tuple #[.bool false])) w := by
      simp [execOp, ka.ev hx, hrun]
    rw [e']
    refine h none _ ?_ s0
    rw [hleft] at h0
    have : unseen seen es = [] := by simpa using h0
    rw [this] at ht
    unfold RepK at ht
    simpa using ht.symm
  · have e' : (execOp a.eval ⟨d, .next x false, T, pos, af, gd⟩).run P w = .ok (.value (.tuple #[.bool true, e.key, e.val])) (ChangeMaps.setBlock w1 it (.mapIter (some b) c (seen.toArray.push e.born) c)) := by
      simp [execOp, ka.ev hx, hrun]
    rw [e']
    rw [hleft] at he
    obtain ⟨i, hi⟩ := List.getElem?_of_mem (by simpa using he : e ∈ unseen seen es)
    obtain ⟨k, hk1, hk2⟩ := ht.get hi
    rw [hk1]
    have hmem : e ∈ es := (List.mem_filter.1 (by simpa using he : e ∈ unseen seen es)).1
    refine h (some (i, k, e.val)) _ hk2 ?_
    have hal : w1.heap = w.heap ∧ w1.os = w.os ∧ w1.tape = w.tape ∧ w1.output = w.output := by rcases hw1 with rfl | rfl <;> exact ⟨rfl, rfl, rfl, rfl⟩
    have hlt : it < w.heap.size := Sat.lt s''
    have s3 : Sat g (ChangeMaps.setBlock w1 it (.mapIter (some b) c (seen.toArray.push e.born) c)) (itO it b c (seen ++ [e.born]).toArray c :: mapO p b es c :: R) := by
      refine Sat.put s'' hal.2.1 hal.2.2.1 hal.2.2.2 ?_ ?_ ?_
      · simp [ChangeMaps.setBlock, hal.1]
      · simp [ChangeMaps.setBlock, hal.1, hlt]
      · intro c' hc'
        simp only [ChangeMaps.setBlock, hal.1]
        rw [Array.getElem?_setIfInBounds, if_neg (fun e => hc' (Eq.symm e))]
    refine Sat.exShut (ι := List MapEntry × Nat × List Nat) (m := fun x => [mapO p b x.1 x.2.1, itO it b x.2.1 x.2.2.toArray x.2.1]) (es, c, seen ++ [e.born]) ⟨hr, hb, ?_, ?_⟩ (s3.perm (.swap _ _ _))
    · have hn : ((unseen seen es).map (·.born)).Nodup := hb.nodup.sublist (List.Sublist.map _ List.filter_sublist)
      show RepK enc (unseen (seen ++ [e.born]) es) (todo.eraseIdx i)
      rw [unseen_snoc, filter_ne_eraseIdx hn hi]
      exact ht.erase i
    · intro k' v' hkv
      simp only [Option.some.injEq, Prod.mk.injEq] at hkv
      obtain ⟨rfl, rfl⟩ := hkv
      exact ⟨e, hmem, by simp, hk1, rfl⟩

theorem yld_entryK {x : Operand} {p : Bool} {b it : Nat} {m todo : List (α × Value)} {k : α} {v : Value} (hx : ev K x = some (.pointer (some ⟨it, 0, none⟩))) (hs : Sel (rangeK enc p b it m todo (some (k, v))) Ps R) :
    Yld P g n ⟨d, .entry x, T, pos, af, gd⟩ K Ps (.tuple #[enc k, v]) := fun a w ka s => by
  have s0 := s.sel1 hs
  obtain ⟨⟨es, c, seen⟩, ⟨hr, hb, ht, hc⟩, s'⟩ := s0.exOpen
  simp only [List.cons_append, List.nil_append] at s' hr hb ht hc
  have s'' : Sat g w (itO it b c seen.toArray c :: mapO p b es c :: R) := s'.perm (.swap _ _ _)
  have hhi : w.heap[it]? = some (.mapIter (some b) c seen.toArray c) := Sat.get s''
  obtain ⟨e, he, hl, hk, hv⟩ := hc k v rfl
  obtain ⟨seen', rfl⟩ : ∃ l, seen = l ++ [e.born] := by
    obtain ⟨h1, h2⟩ := List.getLast?_eq_some_iff.1 hl
    exact ⟨_, h2⟩
  have hrun := run_entry_at (P := P) w it b c seen'.toArray es.toArray c e (by simpa using hhi) s'.mapGet (by simpa using he) (by simpa using hb.nodup)
  rw [hk, hv] at hrun
  simp [execOp, ka.ev hx, hrun]

end
end Go.Sep
