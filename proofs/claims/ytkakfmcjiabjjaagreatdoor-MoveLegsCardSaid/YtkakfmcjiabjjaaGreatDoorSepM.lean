/- Maps by a law on their keys: whole numbers, strings, structs of whole numbers. -/
import Derived.Test.YtkakfmcjiabjjaaGreatDoorSepT
import Derived.Test.YtkakfmcjiabjjaaGreatDoorSepH
namespace Go.Sep
set_option linter.unusedVariables false
set_option linter.unusedSimpArgs false
set_option linter.unusedSectionVars false
set_option linter.unnecessarySimpa false
open Go
variable [rn : Rnd]

/-! ### Association lists -/
section
variable {α β : Type} [DecidableEq α]
omit rn
def kget (m : List (α × β)) (k : α) : Option β := match m with
  | [] => none
  | (j, v) :: m => if j = k then some v else kget m k
def kset (m : List (α × β)) (k : α) (v : β) : List (α × β) := match m with
  | [] => [(k, v)]
  | (j, u) :: m => if j = k then (k, v) :: m else (j, u) :: kset m k v
def kdel (m : List (α × β)) (k : α) : List (α × β) := match m with
  | [] => []
  | (j, u) :: m => if j = k then m else (j, u) :: kdel m k
theorem kset_none : ∀ {m : List (α × β)} {k : α} {v : β}, kget m k = none → kset m k v = m ++ [(k, v)]
  | [], _, _, _ => rfl
  | (j, u) :: m, k, v, h => by
    by_cases e : j = k
    · simp [kget, e] at h
    · simp [kget, e] at h; simp [kset, e, kset_none h]
theorem kdel_none : ∀ {m : List (α × β)} {k : α}, kget m k = none → kdel m k = m
  | [], _, _ => rfl
  | (j, u) :: m, k, h => by
    by_cases e : j = k
    · simp [kget, e] at h
    · simp [kget, e] at h; simp [kdel, e, kdel_none h]
theorem kget_kset {m : List (α × β)} {k j : α} {v : β} : kget (kset m k v) j = if k = j then some v else kget m j := by
  induction m with
  | nil => simp [kset, kget]
  | cons x m ih =>
    obtain ⟨i, u⟩ := x
    by_cases e : i = k
    · subst e
      by_cases e2 : i = j <;> simp [kset, kget, e2]
    · simp only [kset, if_neg e, kget, ih]
      by_cases e2 : i = j
      · subst e2
        simp [Ne.symm e]
      · simp [e2]
theorem kset_len {m : List (α × β)} {k : α} {v : β} : (kset m k v).length ≤ m.length + 1 := by
  induction m with
  | nil => simp [kset]
  | cons x m ih =>
    obtain ⟨i, u⟩ := x
    by_cases e : i = k
    · simp [kset, e]
    · simp [kset, e]; omega
end

/-- What a map's key type is like: enc writes a key down. -/
structure KeyLaw (P : Program) (kt : TypeId) {α : Type} [DecidableEq α] (enc : α → Value) : Prop where
  check : ∀ (em : Bool) (k : α) (w : World), (Instr.checkKey em 10000 kt (enc k)).run P w = .ok () w
  find : ∀ (k : α) (es : List MapEntry) (m : List (α × Value)), es.map (fun e => (e.key, e.val)) = m.map (fun x => (enc x.1, x.2)) → ∀ w,
    (kget m k = none → (Instr.findKey kt (enc k) es).run P w = .ok none w) ∧
    (∀ v, kget m k = some v → ∃ j, j < es.length ∧ (m[j]?).map Prod.fst = some k ∧ (∀ i, i < j → (m[i]?).map Prod.fst ≠ some k) ∧ (Instr.findKey kt (enc k) es).run P w = .ok (some (j, v)) w)
  bits : ∀ k : α, Instr.sameBits 10000 (enc k) (enc k) = true

def RepK {α : Type} (enc : α → Value) (es : List MapEntry) (m : List (α × Value)) : Prop := es.map (fun e => (e.key, e.val)) = m.map (fun x => (enc x.1, x.2))
def mapK {α : Type} (enc : α → Value) (p : Bool) (b : Nat) (m : List (α × Value)) : HProp :=
  exL (ι := List MapEntry × Nat) (fun x => RepK enc x.1 m ∧ Born x.1 x.2) (fun x => [mapO p b x.1 x.2])

section
variable {P : Program} {g : World} {n : Nat} {K : List (Nat × Value)} {Ps R : List HProp} {d : Option Tmp} {T : TypeId} {pos : String} {af : Array Edge} {gd : Option (Nat × Bool)} {w : World} {α : Type} [DecidableEq α] {enc : α → Value}

omit rn in
/-- Keys that are compared at once. -/
theorem KeyLaw.now {kt : TypeId} {kind : TypeDesc} (hk : ∀ w, Sem.run P (underlying kt) w = .ok kind w) (hs : ∀ a b : α, Instr.sameNow kind (enc a) (enc b) = some (decide (a = b)))
    (hc : ∀ (em : Bool) (k : α) (w : World), (Instr.checkKey em 10000 kt (enc k)).run P w = .ok () w) (hb : ∀ k : α, Instr.sameBits 10000 (enc k) (enc k) = true) : KeyLaw P kt enc := by
  have key : ∀ (k : α) (es : List MapEntry) (m : List (α × Value)), es.map (fun e => (e.key, e.val)) = m.map (fun x => (enc x.1, x.2)) → ∀ i,
      (kget m k = none → Instr.findNow kind (enc k) es i = some none) ∧
      (∀ v, kget m k = some v → ∃ j, j < es.length ∧ (m[j]?).map Prod.fst = some k ∧ (∀ i, i < j → (m[i]?).map Prod.fst ≠ some k) ∧ Instr.findNow kind (enc k) es i = some (some (i + j, v))) := by
    intro k es
    induction es with
    | nil =>
      intro m h i
      cases m with
      | nil => exact ⟨fun _ => rfl, fun v hv => by cases hv⟩
      | cons _ _ => simp at h
    | cons e es ih =>
      intro m h i
      cases m with
      | nil => simp at h
      | cons x m =>
        obtain ⟨k', v'⟩ := x
        simp only [List.map_cons, List.cons.injEq, Prod.mk.injEq] at h
        obtain ⟨⟨h1, h2⟩, h3⟩ := h
        obtain ⟨ih1, ih2⟩ := ih m h3 (i + 1)
        have hsm := hs k k'
        rw [← h1] at hsm
        by_cases e' : k' = k
        · subst e'
          refine ⟨fun hn => by simp [kget] at hn, fun v hv => ⟨0, by simp, by simp, fun i hi => by omega, ?_⟩⟩
          have hv2 : v' = v := by simpa [kget] using hv
          simp [Instr.findNow, hsm, h2, hv2]
        · have hd : decide (k = k') = false := by simpa using fun h => e' h.symm
          rw [hd] at hsm
          refine ⟨fun hn => ?_, fun v hv => ?_⟩
          · simp only [kget, if_neg e'] at hn
            simp [Instr.findNow, hsm, ih1 hn]
          · simp only [kget, if_neg e'] at hv
            obtain ⟨j, hj, hk1, hk2, hf⟩ := ih2 v hv
            refine ⟨j + 1, by simpa using hj, by simpa using hk1, fun i hi => ?_, by simp [Instr.findNow, hsm, hf]; omega⟩
            cases i with
            | zero => simpa using e'
            | succ i => simpa using hk2 i (by omega)
  refine ⟨hc, fun k es m h w => ?_, hb⟩
  obtain ⟨h1, h2⟩ := key k es m h 0
  refine ⟨fun hn => by simp [Instr.findKey, hk, h1 hn], fun v hv => ?_⟩
  obtain ⟨j, hj, hk1, hk2, hf⟩ := h2 v hv
  exact ⟨j, hj, hk1, hk2, by simp [Instr.findKey, hk, hf]⟩

omit rn in
/-- Keys that are compared part by part. -/
theorem KeyLaw.ask {kt : TypeId} {kind : TypeDesc} (hk : ∀ w, Sem.run P (underlying kt) w = .ok kind w) (hs : ∀ a b : α, Instr.sameNow kind (enc a) (enc b) = none) (he : ∀ (a b : α) (w : World), (Op.equal kt (enc a) (enc b)).run P w = .ok (decide (a = b)) w)
    (hc : ∀ (em : Bool) (k : α) (w : World), (Instr.checkKey em 10000 kt (enc k)).run P w = .ok () w) (hb : ∀ k : α, Instr.sameBits 10000 (enc k) (enc k) = true) : KeyLaw P kt enc := by
  have key : ∀ (k : α) (es : List MapEntry) (m : List (α × Value)), es.map (fun e => (e.key, e.val)) = m.map (fun x => (enc x.1, x.2)) → ∀ i w,
      (kget m k = none → (Instr.findAsking kt (enc k) es i).run P w = .ok none w) ∧
      (∀ v, kget m k = some v → ∃ j, j < es.length ∧ (m[j]?).map Prod.fst = some k ∧ (∀ i, i < j → (m[i]?).map Prod.fst ≠ some k) ∧ (Instr.findAsking kt (enc k) es i).run P w = .ok (some (i + j, v)) w) := by
    intro k es
    induction es with
    | nil =>
      intro m h i w
      cases m with
      | nil => exact ⟨fun _ => rfl, fun v hv => by cases hv⟩
      | cons _ _ => simp at h
    | cons e es ih =>
      intro m h i w
      cases m with
      | nil => simp at h
      | cons x m =>
        obtain ⟨k', v'⟩ := x
        simp only [List.map_cons, List.cons.injEq, Prod.mk.injEq] at h
        obtain ⟨⟨h1, h2⟩, h3⟩ := h
        obtain ⟨ih1, ih2⟩ := ih m h3 (i + 1) w
        have hsm := he k k' w
        rw [← h1] at hsm
        by_cases e' : k' = k
        · subst e'
          refine ⟨fun hn => by simp [kget] at hn, fun v hv => ⟨0, by simp, by simp, fun i hi => by omega, ?_⟩⟩
          have hv2 : v' = v := by simpa [kget] using hv
          simp [Instr.findAsking, hsm, h2, hv2]
        · have hd : decide (k = k') = false := by simpa using fun h => e' h.symm
          rw [hd] at hsm
          refine ⟨fun hn => ?_, fun v hv => ?_⟩
          · simp only [kget, if_neg e'] at hn
            simp [Instr.findAsking, hsm, ih1 hn]
          · simp only [kget, if_neg e'] at hv
            obtain ⟨j, hj, hk1, hk2, hf⟩ := ih2 v hv
            refine ⟨j + 1, by simpa using hj, by simpa using hk1, fun i hi => ?_, by simp [Instr.findAsking, hsm, hf]; omega⟩
            cases i with
            | zero => simpa using e'
            | succ i => simpa using hk2 i (by omega)
  have nf : ∀ (k : α) (es : List MapEntry) (m : List (α × Value)), es.map (fun e => (e.key, e.val)) = m.map (fun x => (enc x.1, x.2)) → ∀ i, Instr.findNow kind (enc k) es i = none ∨ es = [] := by
    intro k es m h i
    cases es with
    | nil => exact .inr rfl
    | cons e es =>
      cases m with
      | nil => simp at h
      | cons x m =>
        simp only [List.map_cons, List.cons.injEq, Prod.mk.injEq] at h
        have := hs k x.1
        rw [← h.1.1] at this
        exact .inl (by simp [Instr.findNow, this])
  refine ⟨hc, fun k es m h w => ?_, hb⟩
  obtain ⟨h1, h2⟩ := key k es m h 0 w
  rcases nf k es m h 0 with hn | rfl
  · refine ⟨fun hk0 => by simp [Instr.findKey, hk, hn, h1 hk0], fun v hv => ?_⟩
    obtain ⟨j, hj, hk1, hk2, hf⟩ := h2 v hv
    exact ⟨j, hj, hk1, hk2, by simp only [Nat.zero_add] at hf; simp [Instr.findKey, hk, hn, hf]⟩
  · cases m with
    | nil => exact ⟨fun _ => by simp [Instr.findKey, hk, Instr.findNow], fun v hv => by cases hv⟩
    | cons _ _ => simp at h

omit rn in
theorem KeyLaw.int {kt : TypeId} {kd : IntKind} (hk : ∀ w, Sem.run P (underlying kt) w = .ok (.int kd) w) : KeyLaw P kt (fun i : Int => .int .i64 i) :=
  KeyLaw.now hk (fun a b => by simp [Instr.sameNow]; by_cases h : a = b <;> simp [h]) (fun em k w => run_checkKeyInt hk em k w) (fun k => sameBits_int k)

omit rn in
theorem KeyLaw.str {kt : TypeId} (hk : ∀ w, Sem.run P (underlying kt) w = .ok .string w) : KeyLaw P kt (fun s : List UInt8 => .string ⟨s.toArray⟩) := by
  refine KeyLaw.now hk (fun a b => ?_) (fun em k w => ?_) (fun k => ?_)
  · have h1 : ((⟨a.toArray⟩ : ByteArray) == ⟨b.toArray⟩) = decide (a = b) := by
      show (a.toArray == b.toArray) = decide (a = b)
      by_cases h : a = b <;> simp [h]
    simp only [Instr.sameNow, h1]
  · have : ∀ n, (Instr.checkKey em (n + 1) kt (.string ⟨k.toArray⟩)).run P w = .ok () w := fun n => by
      unfold Instr.checkKey
      simp [hk]
    exact this 9999
  · have h1 : ((⟨k.toArray⟩ : ByteArray) == ⟨k.toArray⟩) = true := by show (k.toArray == k.toArray) = true; simp
    have : ∀ n, Instr.sameBits n (.string ⟨k.toArray⟩) (.string ⟨k.toArray⟩) = true := fun n => by cases n <;> simp [Instr.sameBits, h1]
    exact this _

omit rn in
theorem Sat.mapK {p : Bool} {b : Nat} {m : List (α × Value)} (s : Sat g w (Sep.mapK enc p b m :: Ps)) : ∃ es c, RepK enc es m ∧ Born es c ∧ Sat g w (mapO p b es c :: Ps) := by
  obtain ⟨⟨es, c⟩, ⟨h1, h2⟩, s'⟩ := s.exOpen
  exact ⟨es, c, h1, h2, s'⟩
omit rn in
theorem Sat.mapKNew {b : Nat} (s : Sat g w (mapO true b [] 0 :: Ps)) : Sat g w (Sep.mapK enc true b [] :: Ps) :=
  Sat.exShut (ι := List MapEntry × Nat) ([], 0) ⟨rfl, ⟨by simp, by simp⟩⟩ s

theorem run_lookupK {t kt et : TypeId} {p : Bool} {b : Nat} {m : List (α × Value)} {k : α} {z : Value} (hu : ∀ w, Sem.run P (underlying t) w = .ok (.map kt et) w) (L : KeyLaw P kt enc)
    (hz : ∀ w, Sem.run P (zeroValue et) w = .ok z w) (ok : Bool) (s : Sat g w (Sep.mapK enc p b m :: Ps)) :
    (Instr.lookup t (.map (some b)) (enc k) ok).run P w = .ok (if ok then .tuple #[(kget m k).getD z, .bool (kget m k).isSome] else (kget m k).getD z) w := by
  obtain ⟨es, c, hr, hb, s'⟩ := s.mapK
  have hg : (getObj b).run P w = .ok (.map es.toArray c) w := by simp [getObj, Sem.run, s'.mapGet]
  obtain ⟨f1, f2⟩ := L.find k es m hr w
  cases hm : kget m k with
  | none => simp [Instr.lookup, hu, hg, L.check, f1 hm, hz, Sem.run_bind, Result.andThen]
  | some v =>
    obtain ⟨j, _, _, _, hf⟩ := f2 v hm
    simp [Instr.lookup, hu, hg, L.check, hf, Sem.run_bind, Result.andThen]

theorem yld_lookupK {t kt et : TypeId} {x y : Operand} {p : Bool} {b : Nat} {m : List (α × Value)} {z : Value} (hx : ev K x = some (.map (some b))) (k : α) (hy : ev K y = some (enc k)) (hu : ∀ w, Sem.run P (underlying t) w = .ok (.map kt et) w) (L : KeyLaw P kt enc)
    (hz : ∀ w, Sem.run P (zeroValue et) w = .ok z w) (hs : Sel (mapK enc p b m) Ps R) : Yld P g n ⟨d, .lookup t x y true, T, pos, af, gd⟩ K Ps (.tuple #[(kget m k).getD z, .bool (kget m k).isSome]) := fun a w ka s => by
  have := run_lookupK (k := k) hu L hz true (s.sel1 hs)
  simp [execOp, ka.ev hx, ka.ev hy, this]
theorem yld_lookupK1 {t kt et : TypeId} {x y : Operand} {p : Bool} {b : Nat} {m : List (α × Value)} {z : Value} (hx : ev K x = some (.map (some b))) (k : α) (hy : ev K y = some (enc k)) (hu : ∀ w, Sem.run P (underlying t) w = .ok (.map kt et) w) (L : KeyLaw P kt enc)
    (hz : ∀ w, Sem.run P (zeroValue et) w = .ok z w) (hs : Sel (mapK enc p b m) Ps R) : Yld P g n ⟨d, .lookup t x y false, T, pos, af, gd⟩ K Ps ((kget m k).getD z) := fun a w ka s => by
  have := run_lookupK (k := k) hu L hz false (s.sel1 hs)
  simp [execOp, ka.ev hx, ka.ev hy, this]

omit rn in
theorem RepK.len {es : List MapEntry} {m : List (α × Value)} (h : RepK enc es m) : es.length = m.length := by simpa using congrArg List.length h

omit rn in
theorem map_erase {β γ : Type} (f : β → γ) : ∀ (l : List β) (j : Nat), (l.eraseIdx j).map f = (l.map f).eraseIdx j
  | [], _ => by simp
  | _ :: _, 0 => by simp
  | a :: l, j + 1 => by simp [map_erase f l j]
omit rn in
theorem kset_some : ∀ {m : List (α × Value)} {k : α} {v u : Value} {j : Nat}, kget m k = some u → (m[j]?).map Prod.fst = some k → (∀ i, i < j → (m[i]?).map Prod.fst ≠ some k) → kset m k v = m.set j (k, v) ∧ kdel m k = m.eraseIdx j
  | [], _, _, _, _, h, _, _ => by cases h
  | (i, x) :: m, k, v, u, 0, h, h1, _ => by
    simp at h1
    subst h1
    simp [kset, kdel]
  | (i, x) :: m, k, v, u, j + 1, h, h1, h2 => by
    have hi : i ≠ k := by simpa using h2 0 (by omega)
    have := kset_some (m := m) (k := k) (v := v) (u := u) (j := j) (by simpa [kget, hi] using h) (by simpa using h1) (fun l hl => by simpa using h2 (l + 1) (by omega))
    simp [kset, kdel, hi, this.1, this.2]

theorem eff_mapUpdateK {t kt et : TypeId} {x y z : Operand} {b : Nat} {m : List (α × Value)} {v : Value} (hx : ev K x = some (.map (some b))) (k : α) (hy : ev K y = some (enc k)) (hz : ev K z = some v) (hu : ∀ w, Sem.run P (underlying t) w = .ok (.map kt et) w) (L : KeyLaw P kt enc)
    (hs : Sel (mapK enc true b m) Ps R) : Eff P g n ⟨none, .mapUpdate t x y z, T, pos, af, gd⟩ K Ps Unit (fun _ => True) (fun _ => undef) (fun _ => mapK enc true b (kset m k v) :: R) := fun a w ka s next Q h => by
  obtain ⟨es, c, hr, hb, s'⟩ := (s.sel1 hs).mapK
  have hg : (getObj b).run P w = .ok (.map es.toArray c) w := by simp [getObj, Sem.run, s'.mapGet]
  have hso : ∀ o, (setObj b o).run P w = .ok () { w with heap := w.heap.setIfInBounds b o } := fun o => by simp [Go.setObj, Sem.run, s'.mapGet]
  obtain ⟨f1, f2⟩ := L.find k es m hr w
  unfold Oper.wp
  cases hm : kget m k with
  | none =>
    have e : (execOp a.eval ⟨none, .mapUpdate t x y z, T, pos, af, gd⟩).run P w = .ok .skip { w with heap := w.heap.setIfInBounds b (.map (es ++ [(⟨enc k, v, c⟩ : MapEntry)]).toArray (c + 1)) } := by
      simp [execOp, ka.ev hx, ka.ev hy, ka.ev hz, Instr.mapUpdate, hu, hg, L.check, f1 hm, hso]
    rw [e]
    refine h () _ trivial ?_
    refine Sat.exShut (ι := List MapEntry × Nat) (es ++ [⟨enc k, v, c⟩], c + 1) ⟨?_, ?_, ?_⟩ s'.setObj
    · unfold RepK at hr ⊢
      rw [kset_none hm, List.map_append, List.map_append, hr]
      rfl
    · rw [List.map_append, List.nodup_append]
      refine ⟨hb.nodup, by simp, ?_⟩
      intro u hu1 u' hu2
      simp at hu2
      obtain ⟨e1, he1, rfl⟩ := List.mem_map.1 hu1
      have := hb.lt e1 he1
      omega
    · intro e1 he1
      rcases List.mem_append.1 he1 with h1 | h1
      · have := hb.lt e1 h1; omega
      · simp at h1; subst h1; simp
  | some u =>
    obtain ⟨j, hjl, hk1, hk2, hf⟩ := f2 u hm
    have hset := (kset_some (v := v) hm hk1 hk2).1
    have hej : es[j]? = some es[j] := List.getElem?_eq_getElem hjl
    have hkey : es[j].key = enc k := by
      have := congrArg (·[j]?) hr
      simp only [List.getElem?_map, hej, Option.map_some] at this
      cases hmj : m[j]? with
      | none => rw [hmj] at this; simp at this
      | some x =>
        rw [hmj] at this hk1
        simp at this hk1
        rw [this.1, hk1]
    have hmod : es.toArray.modify j (fun e => { e with key := enc k, val := v }) = (es.set j { es[j] with key := enc k, val := v }).toArray := by
      apply Array.ext'
      simp only [Array.toList_modify]
      apply List.ext_getElem?
      intro i
      simp only [List.getElem?_modify, List.getElem?_set]
      by_cases hij : j = i
      · subst hij; simp [hjl]
      · simp [hij]
    have e : (execOp a.eval ⟨none, .mapUpdate t x y z, T, pos, af, gd⟩).run P w = .ok .skip { w with heap := w.heap.setIfInBounds b (.map (es.set j { es[j] with key := enc k, val := v }).toArray c) } := by
      rw [← hmod]
      simp [execOp, ka.ev hx, ka.ev hy, ka.ev hz, Instr.mapUpdate, hu, hg, L.check, hf, hso, Instr.keyThatStays, hjl, hkey, L.bits]
    rw [e]
    refine h () _ trivial ?_
    refine Sat.exShut (ι := List MapEntry × Nat) (es.set j { es[j] with key := enc k, val := v }, c) ⟨?_, ?_, ?_⟩ s'.setObj
    · unfold RepK at hr ⊢
      rw [hset, List.map_set, List.map_set, hr]
    · have : (es.set j { es[j] with key := enc k, val := v }).map (·.born) = es.map (·.born) := by
        rw [List.map_set]
        apply List.ext_getElem?
        intro i
        rw [List.getElem?_set]
        split
        · rename_i hij; subst hij; simp [hjl]
        · rfl
      rw [this]; exact hb.nodup
    · intro e2 he2
      rcases List.mem_or_eq_of_mem_set he2 with h1 | h1
      · exact hb.lt e2 h1
      · subst h1; exact hb.lt es[j] (List.getElem_mem hjl)

theorem eff_deleteK {t kt et : TypeId} {x y : Operand} {b : Nat} {m : List (α × Value)} {ts : Array TypeId} (hts : ts[0]? = some t) (hx : ev K x = some (.map (some b))) (k : α) (hy : ev K y = some (enc k)) (hu : ∀ w, Sem.run P (underlying t) w = .ok (.map kt et) w) (L : KeyLaw P kt enc)
    (hs : Sel (mapK enc true b m) Ps R) : Eff P g n ⟨d, .call ⟨.builtin .delete, #[x, y], ts⟩, T, pos, af, gd⟩ K Ps Unit (fun _ => True) (fun _ => .tuple #[]) (fun _ => mapK enc true b (kdel m k) :: R) := fun a w ka s next Q h => by
  obtain ⟨es, c, hr, hb, s'⟩ := (s.sel1 hs).mapK
  have hg : (getObj b).run P w = .ok (.map es.toArray c) w := by simp [getObj, Sem.run, s'.mapGet]
  have hso : ∀ o, (setObj b o).run P w = .ok () { w with heap := w.heap.setIfInBounds b o } := fun o => by simp [Go.setObj, Sem.run, s'.mapGet]
  obtain ⟨f1, f2⟩ := L.find k es m hr w
  unfold Oper.wp
  cases hm : kget m k with
  | none =>
    have e : (execOp a.eval ⟨d, .call ⟨.builtin .delete, #[x, y], ts⟩, T, pos, af, gd⟩).run P w = .ok (.value (.tuple #[])) { w with heap := w.heap.setIfInBounds b (.map es.toArray c) } := by
      simp [execOp, resolve, invoke, builtin, ka.ev hx, ka.ev hy, Builtin.delete_, hts, hu, hg, L.check, f1 hm, hso]
    rw [e]
    refine h () _ trivial ?_
    rw [kdel_none hm]
    exact Sat.exShut (ι := List MapEntry × Nat) (es, c) ⟨hr, hb⟩ s'.setObj
  | some u =>
    obtain ⟨j, hjl, hk1, hk2, hf⟩ := f2 u hm
    have hdel := (kset_some (v := u) hm hk1 hk2).2
    have e : (execOp a.eval ⟨d, .call ⟨.builtin .delete, #[x, y], ts⟩, T, pos, af, gd⟩).run P w = .ok (.value (.tuple #[])) { w with heap := w.heap.setIfInBounds b (.map (es.eraseIdx j).toArray c) } := by
      simp [execOp, resolve, invoke, builtin, ka.ev hx, ka.ev hy, Builtin.delete_, hts, hu, hg, L.check, hf, hso, Array.eraseIdxIfInBounds, hjl]
    rw [e]
    refine h () _ trivial ?_
    refine Sat.exShut (ι := List MapEntry × Nat) (es.eraseIdx j, c) ⟨?_, ?_, fun e2 he2 => hb.lt e2 (List.mem_of_mem_eraseIdx he2)⟩ s'.setObj
    · unfold RepK at hr ⊢
      rw [hdel, map_erase, map_erase, hr]
    · exact hb.nodup.sublist ((List.eraseIdx_sublist es j).map _)
end
end Go.Sep
