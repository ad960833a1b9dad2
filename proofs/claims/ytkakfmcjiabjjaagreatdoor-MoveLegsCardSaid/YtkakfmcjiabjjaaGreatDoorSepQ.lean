/- Lists of records of k cells each, laid flat. -/
import Derived.Test.YtkakfmcjiabjjaaGreatDoorSepY
namespace Go.Sep
set_option linter.unusedVariables false
set_option linter.unusedSimpArgs false
set_option linter.unusedSectionVars false
set_option linter.unnecessarySimpa false
open Go

theorem Cells.mk : ∀ {vs l : List Value} {i k : Nat}, vs.length = k → (∀ j v, vs[j]? = some v → l[i + j]? = some v) → Cells l i k vs
  | [], _, _, _, h, _ => by subst h; exact .nil
  | v :: vs, l, i, _, h, hv => by
    subst h
    refine .cons (by have := hv 0 v rfl; simpa using this) (Cells.mk rfl fun j u hu => ?_)
    have := hv (j + 1) u (by simpa using hu)
    rw [show i + 1 + j = i + (j + 1) from by omega]
    exact this

section
variable {α : Type} {e : α → List Value} {k : Nat}
def flat (e : α → List Value) : List α → List Value
  | [] => []
  | x :: l => e x ++ flat e l
theorem flat_app : ∀ (l m : List α), flat e (l ++ m) = flat e l ++ flat e m
  | [], _ => rfl
  | x :: l, m => by simp [flat, flat_app l m]
theorem flat_len (hk : ∀ x, (e x).length = k) : ∀ (l : List α), (flat e l).length = l.length * k
  | [] => by simp [flat]
  | x :: l => by rw [flat, List.length_append, hk, flat_len hk l, List.length_cons, Nat.succ_mul, Nat.add_comm]
theorem flat_get (hk : ∀ x, (e x).length = k) {j n : Nat} {v : Value} : ∀ {l : List α} {i : Nat} {x : α}, l[i]? = some x → (e x)[j]? = some v → i * k + j = n → (flat e l)[n]? = some v
  | [], _, _, h, _, _ => by simp at h
  | y :: l, 0, x, h, hj, hn => by
    cases h
    obtain rfl : j = n := by omega
    have hl := (List.getElem?_eq_some_iff.1 hj).1
    rw [flat, List.getElem?_append_left hl]
    exact hj
  | y :: l, i + 1, x, h, hj, hn => by
    have := flat_get hk (l := l) (i := i) (x := x) (n := i * k + j) (by simpa using h) hj rfl
    rw [flat, List.getElem?_append_right (by rw [hk]; rw [Nat.succ_mul] at hn; omega), hk, show n - k = i * k + j from by rw [Nat.succ_mul] at hn; omega]
    exact this
theorem flat_cells (hk : ∀ x, (e x).length = k) {l : List α} {i : Nat} {x : α} (h : l[i]? = some x) : Cells (flat e l) (i * k) k (e x) :=
  Cells.mk (hk x) fun _ _ hj => flat_get hk h hj rfl
theorem flat_set (hk : ∀ x, (e x).length = k) {j : Nat} {v : Value} (hjk : j < k) : ∀ {l : List α} {i : Nat} {x y : α}, l[i]? = some x → (e x).set j v = e y → (flat e l).set (i * k + j) v = flat e (l.set i y)
  | [], _, _, _, h, _ => by simp at h
  | z :: l, 0, x, y, h, hs => by
    cases h
    rw [flat, Nat.zero_mul, Nat.zero_add, List.set_append_left _ _ (by rw [hk]; exact hjk), hs]
    rfl
  | z :: l, i + 1, x, y, h, hs => by
    have ih := flat_set hk hjk (l := l) (i := i) (x := x) (y := y) (by simpa using h) hs
    rw [flat, List.set_append_right _ _ (by rw [hk, Nat.succ_mul]; omega), hk, show (i + 1) * k + j - k = i * k + j from by rw [Nat.succ_mul]; omega, ih]
    rfl
theorem flat_one (x : α) : flat e [x] = e x := by simp [flat]
theorem flat_mem {v : Value} : ∀ {l : List α}, v ∈ flat e l → ∃ x ∈ l, v ∈ e x
  | [], h => by simp [flat] at h
  | x :: l, h => by
    rcases List.mem_append.1 (show v ∈ e x ++ flat e l from h) with h | h
    · exact ⟨x, by simp, h⟩
    · obtain ⟨y, hy, hv⟩ := flat_mem h
      exact ⟨y, by simp [hy], hv⟩
theorem setAts_flat (hk : ∀ x, (e x).length = k) {l : List α} {i : Nat} {y : α} (hi : i < l.length) : SetAts (e y) (flat e l) (i * k) (flat e (l.set i y)) := by
  have hlen := flat_len hk l
  have h1 : i * k + (e y).length ≤ (flat e l).length := by
    rw [hk, hlen]
    have := Nat.mul_le_mul_right k hi
    rw [Nat.succ_mul] at this
    exact this
  have := SetAts.mk (vs := e y) (l := flat e l) (k := i * k) h1
  have e2 : (flat e l).take (i * k) ++ (e y ++ (flat e l).drop (i * k + (e y).length)) = flat e (l.set i y) := by
    have ht : ∀ (l : List α) (i : Nat), i ≤ l.length → (flat e l).take (i * k) = flat e (l.take i) := by
      intro l i h
      have hh : flat e l = flat e (l.take i) ++ flat e (l.drop i) := by rw [← flat_app, List.take_append_drop]
      have hl2 : (flat e (l.take i)).length = i * k := by rw [flat_len hk, List.length_take, Nat.min_eq_left h]
      rw [hh, List.take_append_of_le_length (by omega), List.take_of_length_le (by omega)]
    have hd : ∀ (l : List α) (i : Nat), i ≤ l.length → (flat e l).drop (i * k) = flat e (l.drop i) := by
      intro l i h
      have hh : flat e l = flat e (l.take i) ++ flat e (l.drop i) := by rw [← flat_app, List.take_append_drop]
      have hl2 : (flat e (l.take i)).length = i * k := by rw [flat_len hk, List.length_take, Nat.min_eq_left h]
      rw [hh, List.drop_append_of_le_length (by omega), List.drop_of_length_le (by omega)]
      rfl
    rw [hk, ht l i (by omega), show i * k + k = (i + 1) * k from by rw [Nat.succ_mul], hd l (i + 1) hi, List.set_eq_take_append_cons_drop, if_pos hi, flat_app]
    rfl
  rw [e2] at this
  exact this
end

/-- A slice in somebody's hand: the value of a frozen (or own) slice of records. -/
def vec {α : Type} (p : Bool) (t : TypeId) (k : Nat) (e : α → List Value) (v : Value) (l : List α) : HProp :=
  exL (ι := Option Addr × Nat) (fun x => v = .slice x.1 l.length x.2) (fun x => [sl p t k x.1 l.length x.2 (flat e l)])
section
variable {α : Type} {e : α → List Value} {k : Nat} {g w : World} {t : TypeId} {p : Bool} {Ps : List HProp}
theorem dup_vec (t : TypeId) (k : Nat) (v : Value) (l : List α) : Dup (vec false t k e v l) := dup_exL fun x A hA => by
  obtain rfl : A = _ := by simpa using hA
  exact dup_sl _ _ _ _ _ _
theorem Sat.vecOpen {v : Value} {l : List α} (s : Sat g w (vec p t k e v l :: Ps)) : ∃ x : Option Addr × Nat, v = .slice x.1 l.length x.2 ∧ Sat g w (sl p t k x.1 l.length x.2 (flat e l) :: Ps) := s.exOpen
theorem Sat.vecShut {ad : Option Addr} {len cap : Nat} {l : List α} (hl : len = l.length) (s : Sat g w (sl p t k ad len cap (flat e l) :: Ps)) : Sat g w (vec p t k e (.slice ad len cap) l :: Ps) := by
  subst hl
  exact Sat.exShut (ι := Option Addr × Nat) (ad, cap) rfl s
theorem Sat.vecFreeze {v : Value} {l : List α} (s : Sat g w (vec true t k e v l :: Ps)) : Sat g w (vec false t k e v l :: Ps) := by
  obtain ⟨x, rfl, s'⟩ := s.vecOpen
  exact Sat.vecShut rfl s'.slFreeze
end
theorem Sat.slNone {g w : World} {p : Bool} {t : TypeId} {sz len cap : Nat} {xs : List Value} {Ps : List HProp} (s : Sat g w (sl p t sz none len cap xs :: Ps)) : len = 0 ∧ xs = [] := by
  rcases s.slOpen with ⟨_, h2, _, h4, _⟩ | ⟨b, pre, rest, h1, _⟩
  · exact ⟨h2, h4⟩
  · cases h1
theorem Triple.withX {P : Program} {f : FuncId} {args : Array Value} {Pre : List HProp} {ι : Type} {φ : ι → Prop} {val : ι → Value} {Post : ι → List HProp} (t : Triple P f args Pre ι φ val Post) (X : List HProp) : Triple P f args (Pre ++ X) ι φ val (fun x => Post x ++ X) := fun g w F s => by
  rw [List.append_assoc] at s
  refine (t g w (X ++ F) s).mono ?_
  rintro e w' ⟨x, hx, rfl, s'⟩
  exact ⟨x, hx, rfl, by rw [List.append_assoc]; exact s'⟩
section
variable [rn : Rnd] {P : Program} {g : World} {n : Nat} {K : List (Nat × Value)} {Ps R : List HProp} {w : World} {d : Option Tmp} {T : TypeId} {pos : String} {af : Array Edge} {gd : Option (Nat × Bool)}
omit rn in
theorem run_eqS3 {t : TypeId} {f1 f2 f3 : Field} {k1 k2 k3 : IntKind} {a b c a' b' c' : Int} (hu : ∀ w, Sem.run P (underlying t) w = .ok (.struct #[f1, f2, f3]) w) (hp : P.stoodInHeld t = false) (n1 : f1.name ≠ "_") (n2 : f2.name ≠ "_") (n3 : f3.name ≠ "_") (o1 : f1.offset = 0) (o2 : f2.offset = 1) (o3 : f3.offset = 2)
    (u1 : ∀ w, Sem.run P (underlying f1.type) w = .ok (.int k1) w) (u2 : ∀ w, Sem.run P (underlying f2.type) w = .ok (.int k2) w) (u3 : ∀ w, Sem.run P (underlying f3.type) w = .ok (.int k3) w) (a1 : ∀ w, Sem.run P (isAgg f1.type) w = .ok false w) (a2 : ∀ w, Sem.run P (isAgg f2.type) w = .ok false w) (a3 : ∀ w, Sem.run P (isAgg f3.type) w = .ok false w) (w : World) :
    (Op.equal t (.agg #[.int k1 a, .int k2 b, .int k3 c]) (.agg #[.int k1 a', .int k2 b', .int k3 c'])).run P w = .ok (decide (a = a' ∧ b = b' ∧ c = c')) w := by
  have hq1 : ∀ a c w, (Op.equalIn 9999 f1.type (.int k1 a) (.int k1 c)).run P w = .ok (a == c) w := fun a c => run_eqI (m := 9998) u1
  have hq2 : ∀ b e w, (Op.equalIn 9999 f2.type (.int k2 b) (.int k2 e)).run P w = .ok (b == e) w := fun b e => run_eqI (m := 9998) u2
  have hq3 : ∀ b e w, (Op.equalIn 9999 f3.type (.int k3 b) (.int k3 e)).run P w = .ok (b == e) w := fun b e => run_eqI (m := 9998) u3
  show (Op.equalIn (9999 + 1) t _ _).run P w = _
  unfold Op.equalIn
  have hprog : ∀ w, Sem.run P program w = .ok P w := fun w => by simp [program, go_sem, Sem.run]
  simp [hu, hp, hprog, Sem.run_bind, Result.andThen, part, a1, a2, a3, o1, o2, o3, n1, n2, n3, hq1, hq2, hq3]
  by_cases h1 : a = a' <;> by_cases h2 : b = b' <;> by_cases h3 : c = c' <;> simp [h1, h2, h3, Sem.run_bind, Result.andThen, hq1, hq2, hq3, a1, a2, a3, o1, o2, o3, n1, n2, n3, part]
theorem yld_eqlS3 {t u : TypeId} {x y : Operand} {f1 f2 f3 : Field} {k1 k2 k3 : IntKind} {a b c a' b' c' : Int} (hx : ev K x = some (.agg #[.int k1 a, .int k2 b, .int k3 c])) (hy : ev K y = some (.agg #[.int k1 a', .int k2 b', .int k3 c'])) (hu : ∀ w, Sem.run P (underlying t) w = .ok (.struct #[f1, f2, f3]) w) (hp : P.stoodInHeld t = false) (hg : P.eqGuardType P.depth t = false) (n1 : f1.name ≠ "_") (n2 : f2.name ≠ "_") (n3 : f3.name ≠ "_") (o1 : f1.offset = 0) (o2 : f2.offset = 1) (o3 : f3.offset = 2)
    (u1 : ∀ w, Sem.run P (underlying f1.type) w = .ok (.int k1) w) (u2 : ∀ w, Sem.run P (underlying f2.type) w = .ok (.int k2) w) (u3 : ∀ w, Sem.run P (underlying f3.type) w = .ok (.int k3) w) (a1 : ∀ w, Sem.run P (isAgg f1.type) w = .ok false w) (a2 : ∀ w, Sem.run P (isAgg f2.type) w = .ok false w) (a3 : ∀ w, Sem.run P (isAgg f3.type) w = .ok false w) :
    Yld P g n ⟨d, .binOp .eql t x y u, T, pos, af, gd⟩ K Ps (.bool (decide (a = a' ∧ b = b' ∧ c = c'))) :=
  yld_bin hx hy (fun w => by
    have hprog : ∀ w, Sem.run P program w = .ok P w := fun w => by simp [program, go_sem, Sem.run]
    simp [hprog, hg, eqGuard, binOp, run_eqS3 hu hp n1 n2 n3 o1 o2 o3 u1 u2 u3 a1 a2 a3, Sem.run_bind, Result.andThen])
theorem yld_neqS3 {t u : TypeId} {x y : Operand} {f1 f2 f3 : Field} {k1 k2 k3 : IntKind} {a b c a' b' c' : Int} (hx : ev K x = some (.agg #[.int k1 a, .int k2 b, .int k3 c])) (hy : ev K y = some (.agg #[.int k1 a', .int k2 b', .int k3 c'])) (hu : ∀ w, Sem.run P (underlying t) w = .ok (.struct #[f1, f2, f3]) w) (hp : P.stoodInHeld t = false) (hg : P.eqGuardType P.depth t = false) (n1 : f1.name ≠ "_") (n2 : f2.name ≠ "_") (n3 : f3.name ≠ "_") (o1 : f1.offset = 0) (o2 : f2.offset = 1) (o3 : f3.offset = 2)
    (u1 : ∀ w, Sem.run P (underlying f1.type) w = .ok (.int k1) w) (u2 : ∀ w, Sem.run P (underlying f2.type) w = .ok (.int k2) w) (u3 : ∀ w, Sem.run P (underlying f3.type) w = .ok (.int k3) w) (a1 : ∀ w, Sem.run P (isAgg f1.type) w = .ok false w) (a2 : ∀ w, Sem.run P (isAgg f2.type) w = .ok false w) (a3 : ∀ w, Sem.run P (isAgg f3.type) w = .ok false w) :
    Yld P g n ⟨d, .binOp .neq t x y u, T, pos, af, gd⟩ K Ps (.bool (!decide (a = a' ∧ b = b' ∧ c = c'))) :=
  yld_bin hx hy (fun w => by
    have hprog : ∀ w, Sem.run P program w = .ok P w := fun w => by simp [program, go_sem, Sem.run]
    simp [hprog, hg, eqGuard, binOp, run_eqS3 hu hp n1 n2 n3 o1 o2 o3 u1 u2 u3 a1 a2 a3, Sem.run_bind, Result.andThen])
end
section
variable {P : Program}
theorem KeyLaw.pair {kt : TypeId} {f1 f2 : Field} {k1 k2 : IntKind} (hu : ∀ w, Sem.run P (underlying kt) w = .ok (.struct #[f1, f2]) w) (hp : P.stoodInHeld kt = false) (n1 : f1.name ≠ "_") (n2 : f2.name ≠ "_") (o1 : f1.offset = 0) (o2 : f2.offset = 1)
    (u1 : ∀ w, Sem.run P (underlying f1.type) w = .ok (.int k1) w) (u2 : ∀ w, Sem.run P (underlying f2.type) w = .ok (.int k2) w) (a1 : ∀ w, Sem.run P (isAgg f1.type) w = .ok false w) (a2 : ∀ w, Sem.run P (isAgg f2.type) w = .ok false w) :
    KeyLaw P kt (fun k : Int × Int => Value.agg #[.int k1 k.1, .int k2 k.2]) := by
  refine KeyLaw.ask hu (fun a b => rfl) (fun a b w => ?_) (fun em k w => ?_) (fun k => ?_)
  · rw [run_eqS hu hp n1 n2 o1 o2 u1 u2 a1 a2]
    rw [decide_eq_decide.2 (show (a.1 = b.1 ∧ a.2 = b.2) ↔ a = b from Prod.ext_iff.symm)]
  · show (Instr.checkKey em (9999 + 1) kt _).run P w = _
    unfold Instr.checkKey
    have c1 : ∀ v w, (Instr.checkKey em 9999 f1.type (.int k1 v)).run P w = .ok () w := fun v w => by
      show (Instr.checkKey em (9998 + 1) f1.type _).run P w = _
      unfold Instr.checkKey
      simp [u1, Sem.run_bind, Result.andThen]
    have c2 : ∀ v w, (Instr.checkKey em 9999 f2.type (.int k2 v)).run P w = .ok () w := fun v w => by
      show (Instr.checkKey em (9998 + 1) f2.type _).run P w = _
      unfold Instr.checkKey
      simp [u2, Sem.run_bind, Result.andThen]
    simp [hu, Sem.run_bind, Result.andThen, part, a1, a2, o1, o2, n1, n2, c1, c2]
  · simp [Instr.sameBits]
end
/-- The end of a round, the loop's word being met at one state. -/
theorem WK.nextAt [rn : Rnd] {P : Program} {g : World} {n : Nat} {K K' : List (Nat × Value)} {Ps Ps' R : List HProp} {N : Act → World → Prop} {Q2 : Exit → Act → World → Prop} (hN : ∀ a w, Kn n K' a → Sat g w Ps' → N a w) (hK : KK K K') (hP : SelL Ps' Ps R) : WK P (Exit.then N Q2) g n [] K Ps := fun a w ka s =>
  hN a w (ka.keep hK) (s.toCs hP)
section
variable [rn : Rnd] {P : Program} {g : World} {n : Nat} {K : List (Nat × Value)} {Ps R : List HProp} {w : World} {d : Option Tmp} {T : TypeId} {pos : String} {af : Array Edge} {gd : Option (Nat × Bool)}
/-- An element of a slice's tail, the slice itself being held. -/
theorem yld_indexAddrCut {t e : TypeId} {x y : Operand} {p : Bool} {ad : Option Addr} {len cap l len' cap' sz : Nat} {xs : List Value} {kd : IntKind} {i : Int} (hx : ev K x = some (.slice (cutA ad cap l sz) len' cap')) (hy : ev K y = some (.int kd i)) (hu : ∀ w, Sem.run P (underlying t) w = .ok (.slice e) w)
    (hz : ∀ w, Sem.run P (sizeOf e) w = .ok sz w) (hs : Sel (sl p e sz ad len cap xs) Ps R) (j : Nat) (hi : i = (j : Int)) (hj' : j < len') (hj : l + j < len) {r : Nat} (hr : (l + j) * sz = r) : Yld P g n ⟨d, .indexAddr t x y, T, pos, af, gd⟩ K Ps (.pointer (some (elemA ad r))) := fun a w ka s => by
  subst hr hi
  have h2 : ¬ (len' ≤ j) := by omega
  rcases (s.sel1 hs).slOpen with ⟨h1, h2, h3, h4, s'⟩ | ⟨b, pre, rest, h1, _, _, h4, _⟩
  · omega
  · subst h1
    have hne : cap ≠ l := by omega
    simp only [cutA, if_neg hne, Option.map_some, Addr.add_lit] at hx
    simp [execOp, ka.ev hx, ka.ev hy, Instr.indexAt, asIntOf, hu, hz, Addr.add_lit, h2, elemA, Nat.add_mul, Nat.add_assoc]
end
end Go.Sep
