/- Slices: what they read as, whoever holds them; append. -/
import Derived.Test.YtkakfmcjiabjjaaGreatDoorSepD
namespace Go.Sep
set_option linter.unusedVariables false
set_option linter.unusedSimpArgs false
set_option linter.unusedSectionVars false
set_option linter.unnecessarySimpa false
open Go
variable [Rnd]

/-- Cell number k behind a slice's address. -/
def elemA (ad : Option Addr) (k : Nat) : Addr := (ad.getD ⟨0, 0, none⟩).add k

/-- The slice 'ad, len, cap' of elements of type t, sz cells each, reads as the cells xs; p: held alone. -/
def sl (p : Bool) (t : TypeId) (sz : Nat) (ad : Option Addr) (len cap : Nat) (xs : List Value) : HProp := fun h =>
  ((ad = none ∧ len = 0 ∧ cap = 0 ∧ xs = []) ∧ h = Hp.empty) ∨
  ∃ b pre rest, (ad = some ⟨b, pre.length, none⟩ ∧ xs.length = len * sz ∧ cap * sz ≤ xs.length + rest.length ∧ len ≤ cap ∧ ∀ v ∈ xs, v.oneCell' = true) ∧ row p b t (pre ++ (xs ++ rest)) h


theorem dup_sl (t : TypeId) (sz : Nat) (ad : Option Addr) (len cap : Nat) (xs : List Value) : Dup (sl false t sz ad len cap xs) := by
  rintro h (⟨_, e⟩ | ⟨b, pre, rest, _, e⟩) c x hx
  · subst e; cases hx
  · exact dup_row _ _ _ h e c x hx

section
variable {P : Program} {g : World} {n : Nat} {K : List (Nat × Value)} {Ps R : List HProp} {d : Option Tmp} {T : TypeId} {pos : String} {af : Array Edge} {gd : Option (Nat × Bool)}

/-- The nil slice stands everywhere. -/
theorem Sat.nilSl {w : World} (s : Sat g w Ps) (p : Bool) (t : TypeId) (sz : Nat) : Sat g w (sl p t sz none 0 0 [] :: Ps) :=
  Sat.conseq (l := []) (m := [sl p t sz none 0 0 []]) s fun h e => one_sepL.2 (.inl ⟨⟨rfl, rfl, rfl, rfl⟩, e⟩)

/-- A row of one's own as a slice of all of it, or of its head. -/
theorem Sat.rowSl {w : World} {p : Bool} {b : Nat} {t : TypeId} {xs rest : List Value} (s : Sat g w (row p b t (xs ++ rest) :: Ps)) (sz len cap : Nat) (h1 : xs.length = len * sz) (h2 : cap * sz ≤ xs.length + rest.length) (h3 : len ≤ cap) (h4 : ∀ v ∈ xs, v.oneCell' = true) :
    Sat g w (sl p t sz (some ⟨b, 0, none⟩) len cap xs :: Ps) :=
  Sat.conseq (l := [row p b t (xs ++ rest)]) (m := [sl p t sz (some ⟨b, 0, none⟩) len cap xs]) s fun h e => one_sepL.2 (.inr ⟨b, [], rest, ⟨rfl, h1, h2, h3, h4⟩, by simpa using one_sepL.1 e⟩)

theorem Sat.rowSl' {w : World} {p : Bool} {b : Nat} {t : TypeId} {xs : List Value} (s : Sat g w (row p b t xs :: Ps)) (sz len : Nat) (h1 : xs.length = len * sz) (h4 : ∀ v ∈ xs, v.oneCell' = true) : Sat g w (sl p t sz (some ⟨b, 0, none⟩) len len xs :: Ps) :=
  Sat.rowSl (rest := []) (by simpa using s) sz len len h1 (by simp [h1]) (Nat.le_refl _) h4

theorem Sat.slOpen {w : World} {p : Bool} {t : TypeId} {sz : Nat} {ad : Option Addr} {len cap : Nat} {xs : List Value} (s : Sat g w (sl p t sz ad len cap xs :: Ps)) :
    (ad = none ∧ len = 0 ∧ cap = 0 ∧ xs = [] ∧ Sat g w Ps) ∨ ∃ b pre rest, ad = some ⟨b, pre.length, none⟩ ∧ xs.length = len * sz ∧ cap * sz ≤ xs.length + rest.length ∧ len ≤ cap ∧ (∀ v ∈ xs, v.oneCell' = true) ∧ Sat g w (row p b t (pre ++ (xs ++ rest)) :: Ps) := by
  obtain ⟨h, ⟨h1, h2, a, x, dj, rfl⟩, y, z⟩ := s.mem
  rcases a with ⟨⟨e1, e2, e3, e4⟩, e⟩ | ⟨b, pre, rest, ⟨e1, e2, e3, e4, e5⟩, e⟩
  · subst e
    rw [Hp.empty_union] at y z
    exact .inl ⟨e1, e2, e3, e4, { s with mem := ⟨h2, x, y, z⟩ }⟩
  · exact .inr ⟨b, pre, rest, e1, e2, e3, e4, e5, { s with mem := ⟨_, ⟨h1, h2, e, x, dj, rfl⟩, y, z⟩ }⟩

theorem Sat.slLen {w : World} {p : Bool} {t : TypeId} {sz : Nat} {ad : Option Addr} {len cap : Nat} {xs : List Value} (s : Sat g w (sl p t sz ad len cap xs :: Ps)) : xs.length = len * sz ∧ len ≤ cap ∧ ∀ v ∈ xs, v.oneCell' = true := by
  rcases s.slOpen with ⟨_, h1, h2, h3, _⟩ | ⟨_, _, _, _, h1, _, h2, h3, _⟩
  · subst h1 h2 h3; simp
  · exact ⟨h1, h2, h3⟩

theorem Sat.slFreeze {w : World} {t : TypeId} {sz : Nat} {ad : Option Addr} {len cap : Nat} {xs : List Value} (s : Sat g w (sl true t sz ad len cap xs :: Ps)) : Sat g w (sl false t sz ad len cap xs :: Ps) := by
  rcases s.slOpen with ⟨h1, h2, h3, h4, s'⟩ | ⟨b, pre, rest, h1, h2, h3, h4, h5, s'⟩
  · subst h1 h2 h3 h4; exact s'.nilSl _ _ _
  · exact Sat.conseq (l := [row false b t (pre ++ (xs ++ rest))]) (m := [sl false t sz ad len cap xs]) (Sat.rowFreeze s') fun h e => one_sepL.2 (.inr ⟨b, pre, rest, ⟨h1, h2, h3, h4, h5⟩, one_sepL.1 e⟩)

/-- The cell behind an element's address. -/
theorem Sat.slCell {w : World} {p : Bool} {t : TypeId} {sz : Nat} {ad : Option Addr} {len cap : Nat} {xs : List Value} (s : Sat g w (sl p t sz ad len cap xs :: Ps)) {k : Nat} {v : Value} (hk : xs[k]? = some v) : w.cell? (elemA ad k) = some v := by
  rcases s.slOpen with ⟨h1, h2, h3, h4, s'⟩ | ⟨b, pre, rest, h1, h2, h3, h4, h5, s'⟩
  · subst h4; simp at hk
  · subst h1
    have hlt : k < xs.length := by
      rcases Nat.lt_or_ge k xs.length with h | h
      · exact h
      · simp [List.getElem?_eq_none h] at hk
    simp only [elemA, Option.getD_some, Addr.add_lit]
    rw [s'.rowCell?, List.getElem?_append_right (by omega), Nat.add_sub_cancel_left, List.getElem?_append_left hlt]
    exact hk

theorem yld_indexAddrS {t e : TypeId} {x y : Operand} {p : Bool} {ad : Option Addr} {len cap len' cap' sz : Nat} {xs : List Value} {kd : IntKind} {i : Int} (hx : ev K x = some (.slice ad len' cap')) (hy : ev K y = some (.int kd i)) (hu : ∀ w, Sem.run P (underlying t) w = .ok (.slice e) w)
    (hz : ∀ w, Sem.run P (sizeOf e) w = .ok sz w) (hs : Sel (sl p e sz ad len cap xs) Ps R) (j : Nat) (hi : i = (j : Int)) (hj' : j < len') (hj : j < len) {r : Nat} (hr : j * sz = r) : Yld P g n ⟨d, .indexAddr t x y, T, pos, af, gd⟩ K Ps (.pointer (some (elemA ad r))) := fun a w ka s => by
  subst hr hi
  have h2 : ¬ (len' ≤ j) := by omega
  rcases (s.sel1 hs).slOpen with ⟨h1, h2, h3, h4, s'⟩ | ⟨b, pre, rest, h1, _⟩
  · omega
  · subst h1
    simp [execOp, ka.ev hx, ka.ev hy, Instr.indexAt, asIntOf, hu, hz, Addr.add_lit, h2, elemA]

theorem yld_fieldAddrS {t : TypeId} {x : Operand} {f : Nat} {ad : Option Addr} {k0 : Nat} {fs : Array Field} {fd : Field} {k : Nat} (hx : ev K x = some (.pointer (some (elemA ad k0)))) (hu : ∀ w, Sem.run P (underlying t) w = .ok (.struct fs) w)
    (hf : fs[f]? = some fd) (hs : ∀ w, Sem.run P (sizeOf fd.type) w = .ok k w) (hk : (k == 0) = false) {r : Nat} (hr : k0 + fd.offset = r) : Yld P g n ⟨d, .fieldAddr t x f, T, pos, af, gd⟩ K Ps (.pointer (some (elemA ad r))) := fun a w ka _ => by
  subst hr
  have hk' : k ≠ 0 := by simpa using hk
  simp [execOp, ka.ev hx, Instr.fieldAt, hu, hf, Instr.sureAddr, fieldPlace, hs, hk', elemA, Addr.add_add]

theorem yld_loadS {t e : TypeId} {x : Operand} {p : Bool} {ad : Option Addr} {len cap sz k : Nat} {xs : List Value} {v : Value} (hx : ev K x = some (.pointer (some (elemA ad k)))) (ha : ∀ w, Sem.run P (isAgg t) w = .ok false w) (hs : Sel (sl p e sz ad len cap xs) Ps R) (hv : xs[k]? = some v) :
    Yld P g n ⟨d, .load t x, T, pos, af, gd⟩ K Ps v := fun a w ka s => by
  simp [execOp, ka.ev hx, Instr.loadAt, Instr.sureAddr, loadVar, ha, (s.sel1 hs).slCell hv]

theorem yld_loadSA {t e : TypeId} {x : Operand} {p : Bool} {ad : Option Addr} {len cap sz k m : Nat} {xs vs : List Value} (hx : ev K x = some (.pointer (some (elemA ad k)))) (ha : ∀ w, Sem.run P (isAgg t) w = .ok true w) (hm : ∀ w, Sem.run P (sizeOf t) w = .ok m w) (hs : Sel (sl p e sz ad len cap xs) Ps R) (hv : Cells xs k m vs) :
    Yld P g n ⟨d, .load t x, T, pos, af, gd⟩ K Ps (.agg vs.toArray) := fun a w ka s => by
  have h := run_loadCells_list (P := P) w (elemA ad k) vs (fun j v hj => by
    have := (s.sel1 hs).slCell (hv.at j v hj)
    rw [← this]; simp [elemA, Addr.add_add])
  rw [hv.length] at h
  simp [execOp, ka.ev hx, Instr.loadAt, Instr.sureAddr, loadVar, ha, hm, h]

theorem SetAts.app {vs xs xs' : List Value} {k : Nat} (h : SetAts vs xs k xs') (pre rest : List Value) : SetAts vs (pre ++ (xs ++ rest)) (pre.length + k) (pre ++ (xs' ++ rest)) := by
  induction h with
  | nil => exact .nil
  | @cons v vs l l' l'' i h1 _ ih =>
    obtain ⟨hlt, rfl⟩ := h1.set
    refine .cons (l' := pre ++ (l.set i v ++ rest)) ?_ (by rw [Nat.add_assoc]; exact ih)
    have h2 := SetAt.mk (v := v) (l := pre ++ (l ++ rest)) (i := pre.length + i) (by simp; omega)
    rw [List.set_append_right _ _ (by omega), Nat.add_sub_cancel_left, List.set_append_left _ _ hlt] at h2
    exact h2

theorem SetAts.mem {vs xs xs' : List Value} {k : Nat} (h : SetAts vs xs k xs') : ∀ v ∈ xs', v ∈ vs ∨ v ∈ xs := by
  induction h with
  | nil => exact fun v hv => .inr hv
  | @cons v vs l l' l'' i h1 _ ih =>
    obtain ⟨_, rfl⟩ := h1.set
    intro u hu
    rcases ih u hu with h | h
    · exact .inl (by simp [h])
    · rcases List.mem_or_eq_of_mem_set h with h | h
      · exact .inr h
      · exact .inl (by simp [h])

/-- A store into an element of a slice of one's own. -/
theorem eff_storeS {t e : TypeId} {x y : Operand} {ad : Option Addr} {len cap sz k m : Nat} {xs xs' vs : List Value} {v : Value} (hx : ev K x = some (.pointer (some (elemA ad k)))) (hy : ev K y = some v) (hm : ∀ w, Sem.run P (sizeOf t) w = .ok m w) (hv : v.cells = vs.toArray) (hl : vs.length = m)
    (h1 : vs.all (·.oneCell') = true) (hne : vs ≠ []) (hs : Sel (sl true e sz ad len cap xs) Ps R) (hl' : SetAts vs xs k xs') :
    Eff P g n ⟨none, .store t x y, T, pos, af, gd⟩ K Ps Unit (fun _ => True) (fun _ => undef) (fun _ => sl true e sz ad len cap xs' :: R) := fun a w ka s next Q h => by
  have hle := hl'.length
  have h1' : ∀ v ∈ vs, v.oneCell' = true := fun v hv => List.all_eq_true.1 h1 v hv
  rcases (s.sel1 hs).slOpen with ⟨_, _, _, h4, s'⟩ | ⟨b, pre, rest, h2, h3, h4, h5, h6, s'⟩
  · subst h4
    cases vs with
    | nil => exact absurd rfl hne
    | cons u us => have := hle.2 (by simp); simp at this
  · subst h2
    obtain ⟨w', hr, s''⟩ := run_store_row (P := P) vs _ _ (pre.length + k) 0 w s' (hl'.app pre rest) h1'
    unfold Oper.wp
    have e' : (execOp a.eval ⟨none, .store t x y, T, pos, af, gd⟩).run P w = .ok .skip w' := by
      simp [execOp, ka.ev hx, ka.ev hy, Instr.storeAt, Instr.sureAddr, storeVar, hm, hv, hl, elemA, Addr.add_lit, hr]
    rw [e']
    refine h () w' trivial ?_
    exact Sat.conseq (l := [row true b e (pre ++ (xs' ++ rest))]) (m := [sl true e sz (some ⟨b, pre.length, none⟩) len cap xs']) s'' fun h e => one_sepL.2 (.inr ⟨b, pre, rest, ⟨rfl, by rw [hle.1]; exact h3, by rw [hle.1]; exact h4, h5, fun v hv => (hl'.mem v hv).elim (h1' v) (h6 v)⟩, one_sepL.1 e⟩)

theorem Eff.post {o : Oper} {ι : Type} {φ : ι → Prop} {val : ι → Value} {Ps' Ps'' : ι → List HProp} (e : Eff P g n o K Ps ι φ val Ps') (h : ∀ x w, φ x → Sat g w (Ps' x) → Sat g w (Ps'' x)) : Eff P g n o K Ps ι φ val Ps'' := fun a w ka s next Q hn =>
  e a w ka s next Q fun x w' hx s' => hn x w' hx (h x w' hx s')

theorem eff_mkSlice1 {t e : TypeId} {k : Nat} {x : Operand} {v z : Value} {cs : List Value} (hx : ev K x = some v) (hv : v.cells = cs.toArray) (hu : ∀ w, Sem.run P (underlying t) w = .ok (.slice e) w) (hk : ∀ w, Sem.run P (sizeOf e) w = .ok k w) (hz : ∀ w, Sem.run P (zeroValue e) w = .ok z w)
    (hl : cs.length = k) (hk0 : (k != 0) = true) (hb : decide (k ≤ 2 ^ 24) = true) (h1 : cs.all (·.oneCell') = true) :
    Eff P g n ⟨d, .buildSlice t 1 #[(0, x)], T, pos, af, gd⟩ K Ps Nat (fun _ => True) (fun b => .slice (some ⟨b, 0, none⟩) 1 1) (fun b => sl true e k (some ⟨b, 0, none⟩) 1 1 cs :: Ps) :=
  (eff_buildSlice1 hx hv hu hk hz hl hk0 hb).post fun b w _ s => s.rowSl' k 1 (by omega) (fun v hv => List.all_eq_true.1 h1 v hv)

theorem eff_mkSlice {t e : TypeId} {len k : Nat} {xs : List (Nat × Operand)} {vs : List (Nat × Value)} {z : Value} {zs cs : List Value} (hx : Prts K xs vs) (hu : ∀ w, Sem.run P (underlying t) w = .ok (.slice e) w) (hk : ∀ w, Sem.run P (sizeOf e) w = .ok k w) (hz : ∀ w, Sem.run P (zeroValue e) w = .ok z w)
    (hzs : (Array.range (len * k)).map (fun i => z.cells[i % z.cells.size]!) = zs.toArray) (hb : decide (len * k ≤ 2 ^ 24) = true) (hk0 : (k != 0) = true) (hl0 : (len != 0) = true) (hf : Fill (fun i => some (i * k, k)) zs vs cs) (hl : cs.length = len * k) (h1 : cs.all (·.oneCell') = true) :
    Eff P g n ⟨d, .buildSlice t len xs.toArray, T, pos, af, gd⟩ K Ps Nat (fun _ => True) (fun b => .slice (some ⟨b, 0, none⟩) len len) (fun b => sl true e k (some ⟨b, 0, none⟩) len len cs :: Ps) :=
  (eff_buildSlice hx hu hk hz hzs hb hk0 hl0 hf).post fun b w _ s => s.rowSl' k len hl (fun v hv => List.all_eq_true.1 h1 v hv)

theorem eff_mkSlice0 {t e : TypeId} {k : Nat} (hu : ∀ w, Sem.run P (underlying t) w = .ok (.slice e) w) (hk : ∀ w, Sem.run P (sizeOf e) w = .ok k w) :
    Eff P g n ⟨d, .buildSlice t 0 #[], T, pos, af, gd⟩ K Ps Nat (fun _ => True) (fun b => .slice (some ⟨b, 0, none⟩) 0 0) (fun b => sl true e k (some ⟨b, 0, none⟩) 0 0 [] :: Ps) :=
  (eff_buildSlice0 hu hk).post fun b w _ s => s.rowSl' k 0 (by simp) (by simp)

/-! ### append -/

theorem Sat.src {w : World} {p : Bool} {t' t : TypeId} {sz : Nat} {ad : Option Addr} {len cap : Nat} {xs : List Value} (s : Sat g w (sl p t sz ad len cap xs :: Ps)) (hk : P.underlying t' = some (.slice t)) : Src P sz t' (.slice ad len cap) len xs w := by
  have hc := fun k v hk => s.slCell (k := k) (v := v) hk
  rcases s.slOpen with ⟨h1, h2, h3, h4, s'⟩ | ⟨b, pre, rest, h1, h2, h3, h4, h5, s'⟩
  · subst h1 h2 h3 h4; exact Src.ofNil w hk 0
  · subst h1
    exact Src.ofSlice w hk _ _ _ _ h2 (fun j u hj => by have := hc j u hj; simpa [elemA] using this) h5

theorem Sat.first {w : World} {p : Bool} {t : TypeId} {sz : Nat} {ad : Option Addr} {len cap : Nat} {xs : List Value} (s : Sat g w (sl p t sz ad len cap xs :: Ps)) : (Builtin.firstCells sz len (.slice ad len cap)).run P w = .ok xs.toArray w := by
  have hc := fun k v hk => s.slCell (k := k) (v := v) hk
  rcases s.slOpen with ⟨h1, h2, h3, h4, s'⟩ | ⟨b, pre, rest, h1, h2, h3, h4, h5, s'⟩
  · subst h1 h2 h3 h4; exact run_firstCells_none w _ _ _ _
  · subst h1
    exact run_firstCells_some w sz len _ len cap xs h2 (fun j u hj => by have := hc j u hj; simpa [elemA] using this)

theorem setCells_sat {b : Nat} {t : TypeId} : ∀ (vs l l' : List Value) (o : Nat) (w : World), Sat g w (row true b t l :: Ps) → SetAts vs l o l' → Sat g (w.setCells b o vs) (row true b t l' :: Ps)
  | [], l, l', o, w, s, h => by cases h; exact s
  | v :: vs, l, l', o, w, s, h => by
    cases h with
    | cons h1 h2 =>
      obtain ⟨_, rfl⟩ := h1.set
      exact setCells_sat vs _ l' (o + 1) _ (s.setCell o v) h2

/-- The facts on the element's type that append asks for. -/
structure ElemT (P : Program) (t e : TypeId) (sz by_ : Nat) : Prop where
  und : P.underlying t = some (.slice e)
  info : ∃ i z, P.info? e = some i ∧ i.zero = some z ∧ i.size = sz ∧ i.bytes = by_ ∧ z.cells.size = sz

theorem run_append {w : World} {t tx e : TypeId} {T : TypeId} {sz by_ : Nat} (et : ElemT P t e sz by_) {ad : Option Addr} {len cap n2 : Nat} {x : Value} {xs ys : List Value}
    (s : Sat g w (sl true e sz ad len cap xs :: R)) (hsrc : Src P sz tx x n2 ys w) (hb : (len + n2) * by_ ≤ 140737488355328) (hm : len + n2 ≤ 9223372036854775807) :
    ∃ ad' cap' w', (Builtin.append_ #[t, tx] T #[.slice ad len cap, x]).run P w = .ok (.slice ad' (len + n2) cap') w' ∧ Sat g w' (sl true e sz ad' (len + n2) cap' (xs ++ ys) :: R) := by
  obtain ⟨i, z, hi, hz, hsz, hby, hzs⟩ := et.info
  subst hsz hby
  have hyl := hsrc.newsLen
  have hy1 := hsrc.one
  obtain ⟨hxl, hlc, hx1⟩ := s.slLen
  by_cases hroom : len + n2 ≤ cap
  · rcases s.slOpen with ⟨h1, h2, h3, h4, s'⟩ | ⟨b, pre, rest, h1, h2, h3, h4, h5, s'⟩
    · subst h1 h2 h3 h4
      obtain rfl : n2 = 0 := by omega
      have hys : ys = [] := by simpa using hyl
      subst hys
      refine ⟨none, 0, w, ?_, ?_⟩
      · have := hsrc.cells
        have h2 := hsrc.len w
        rcases hsrc.kind with ⟨e', hk⟩ | hk <;> simp [Builtin.append_, run_underlying et.und, run_underlying hk, sizeOf, typeInfo, hi, h2, this]
      · exact s'.nilSl _ _ _
    · subst h1
      have hcell : ∀ j, j < ys.length → (w.cell? ⟨b, pre.length + len * i.size + j, none⟩).isSome = true ∧ w.frozen? ⟨b, pre.length + len * i.size + j, none⟩ = false := fun j hj => by
        have hlen : pre.length + len * i.size + j < (pre ++ (xs ++ rest)).length := by
          simp only [List.length_append]
          have : (len + n2) * i.size ≤ cap * i.size := Nat.mul_le_mul_right _ hroom
          rw [Nat.add_mul] at this
          omega
        exact ⟨by rw [s'.rowCell?, List.getElem?_eq_getElem hlen]; rfl, s'.rowFrozen hlen⟩
      have hr := run_append_room_src (P := P) w t tx T e i et.und hi b pre.length len cap x n2 ys hsrc hroom (fun j hj => (hcell j hj).1) (fun j hj => (hcell j hj).2)
      refine ⟨_, _, _, hr, ?_⟩
      have hset : SetAts ys (pre ++ (xs ++ rest)) (pre.length + len * i.size) (pre ++ ((xs ++ ys) ++ rest.drop ys.length)) := by
        have hle : (len + n2) * i.size ≤ cap * i.size := Nat.mul_le_mul_right _ hroom
        rw [Nat.add_mul] at hle
        have h0 := SetAts.mk (vs := ys) (l := rest) (k := 0) (by omega)
        have h1 := h0.app (pre ++ xs) []
        simpa [hxl] using h1
      have s3 := setCells_sat ys _ _ _ _ s' hset
      refine Sat.conseq (l := [row true b e (pre ++ ((xs ++ ys) ++ rest.drop ys.length))]) (m := [sl true e i.size (some ⟨b, pre.length, none⟩) (len + n2) cap (xs ++ ys)]) s3 fun h e' => one_sepL.2 (.inr ⟨b, pre, rest.drop ys.length, ⟨rfl, ?_, ?_, hroom, ?_⟩, one_sepL.1 e'⟩)
      · rw [List.length_append, hxl, hyl, Nat.add_mul]
      · simp only [List.length_append, List.length_drop]; omega
      · intro v hv; rcases List.mem_append.1 hv with h | h; exact hx1 v h; exact hy1 v h
  · have hfit := growslice_fits (need := len + n2) (old := cap) (bytes := i.bytes) (by omega) hb
    have hfirst := s.alike (Alike.drawn w (w.drawn + 1))
    have hr := run_append_grow_src (P := P) w t tx T e i z et.und hi hz ad len cap xs (hfirst.first) x n2 ys hsrc (by omega) (by omega) hfit
    have hge := grownCap_ge w (len + n2) cap e
    refine ⟨_, _, _, hr, ?_⟩
    have s4 : Sat g w.drew R := Sat.drop (l := [sl true e i.size ad len cap xs]) (s.alike (Alike.drawn w (w.drawn + 1)))
    have s5 := s4.new (o := .cells ((xs ++ ys).toArray ++ Builtin.zeroCells z.cells (grownCap w (len + n2) cap e - (len + n2))) e) (w' := w.drew.alloc (.cells ((xs ++ ys).toArray ++ Builtin.zeroCells z.cells (grownCap w (len + n2) cap e - (len + n2))) e)) rfl rfl rfl rfl
    have s6 : Sat g (w.drew.alloc (.cells ((xs ++ ys).toArray ++ Builtin.zeroCells z.cells (grownCap w (len + n2) cap e - (len + n2))) e)) (row true w.heap.size e ((xs ++ ys) ++ (Builtin.zeroCells z.cells (grownCap w (len + n2) cap e - (len + n2))).toList) :: R) := by
      have e' : ((xs ++ ys).toArray ++ Builtin.zeroCells z.cells (grownCap w (len + n2) cap e - (len + n2))) = ((xs ++ ys) ++ (Builtin.zeroCells z.cells (grownCap w (len + n2) cap e - (len + n2))).toList).toArray := by
        apply Array.ext'; simp
      rw [e'] at s5 ⊢
      exact Sat.rowShut (fz := (0, 0)) s5 (.inl rfl)
    refine s6.rowSl i.size (len + n2) _ ?_ ?_ hge ?_
    · rw [List.length_append, hxl, hyl, Nat.add_mul]
    · simp only [Array.length_toList, size_zeroCells, List.length_append]
      rw [hzs, hxl, hyl, ← Nat.add_mul, ← Nat.add_mul]
      exact Nat.mul_le_mul_right _ (by omega)
    · intro v hv; rcases List.mem_append.1 hv with h | h; exact hx1 v h; exact hy1 v h

/-- append, of whatever is appended. -/
theorem eff_appendX {t tx e : TypeId} {x y : Operand} {sz by_ : Nat} {ad : Option Addr} {len cap n2 : Nat} {u : Value} {xs ys : List Value} (hx : ev K x = some (.slice ad len cap)) (hy : ev K y = some u) (et : ElemT P t e sz by_)
    (hs : Sel (sl true e sz ad len cap xs) Ps R) (hsrc : ∀ w, Sat g w R → Src P sz tx u n2 ys w) (hb : (len + n2) * by_ ≤ 140737488355328) (hm : len + n2 ≤ 9223372036854775807) :
    Eff P g n ⟨d, .call ⟨.builtin .append, #[x, y], #[t, tx]⟩, T, pos, af, gd⟩ K Ps (Option Addr × Nat) (fun _ => True) (fun r => .slice r.1 (len + n2) r.2) (fun r => sl true e sz r.1 (len + n2) r.2 (xs ++ ys) :: R) := fun a w ka s next Q h => by
  have s1 := s.sel1 hs
  obtain ⟨ad', cap', w', hr, s'⟩ := run_append (P := P) (T := T) et s1 (hsrc w (Sat.drop (l := [_]) s1)) hb hm
  unfold Oper.wp
  have e' : (execOp a.eval ⟨d, .call ⟨.builtin .append, #[x, y], #[t, tx]⟩, T, pos, af, gd⟩).run P w = .ok (.value (.slice ad' (len + n2) cap')) w' := by
    simp [execOp, resolve, invoke, builtin, ka.ev hx, ka.ev hy, hr]
  rw [e']
  exact h (ad', cap') w' trivial s'

theorem eff_append {t tx e e2 : TypeId} {x y : Operand} {p : Bool} {sz by_ : Nat} {ad ad2 : Option Addr} {len cap n2 c2 : Nat} {xs ys : List Value} (hx : ev K x = some (.slice ad len cap)) (hy : ev K y = some (.slice ad2 n2 c2)) (et : ElemT P t e sz by_) (htx : P.underlying tx = some (.slice e2))
    (hs : SelL [sl true e sz ad len cap xs, sl p e2 sz ad2 n2 c2 ys] Ps R) (hb : (len + n2) * by_ ≤ 140737488355328) (hm : len + n2 ≤ 9223372036854775807) :
    Eff P g n ⟨d, .call ⟨.builtin .append, #[x, y], #[t, tx]⟩, T, pos, af, gd⟩ K Ps (Option Addr × Nat) (fun _ => True) (fun r => .slice r.1 (len + n2) r.2) (fun r => sl true e sz r.1 (len + n2) r.2 (xs ++ ys) :: sl p e2 sz ad2 n2 c2 ys :: R) := by
  cases hs with
  | cons h1 h2 =>
    cases h2 with
    | cons h3 h4 =>
      cases h4
      refine (eff_appendX hx hy et h1 (fun w s => (s.sel1 h3).src htx) hb hm).post fun r w _ s => ?_
      exact s.perm (.cons _ h3.perm)

theorem yld_eqlNilS {t u : TypeId} {x y : Operand} {ad : Option Addr} {len cap l2 c2 : Nat} {e : TypeId} (hx : ev K x = some (.slice ad len cap)) (hy : ev K y = some (.slice none l2 c2)) (hu : ∀ w, Sem.run P (underlying t) w = .ok (.slice e) w) : Yld P g n ⟨d, .binOp .eql t x y u, T, pos, af, gd⟩ K Ps (.bool ad.isNone) :=
  yld_bin hx hy fun w => by
    have : (Op.equal t (.slice ad len cap) (.slice none l2 c2)).run P w = .ok ad.isNone w := by
      have key : ∀ k, (Op.equalIn (k + 1) t (.slice ad len cap) (.slice none l2 c2)).run P w = .ok ad.isNone w := fun k => by
        unfold Op.equalIn
        cases ad <;> simp [hu]
      exact key 9999
    simp [eqGuard, binOp, this]

/-- The world's list in a walk, turned. -/
theorem WL.sat {ops : Array Oper} {Q : Exit → Act → World → Prop} {l : List Oper} {Ps' : List HProp} (f : ∀ w, Sat g w Ps → Sat g w Ps') (h : WL P ops Q g n l K Ps') : WL P ops Q g n l K Ps := fun a w k s => h a w k (f w s)
theorem WO.sat {ops : Array Oper} {Q : Exit → Act → World → Prop} {Cs : List HProp} {l : List (Nat × Nat)} {Ps' : List HProp} (f : ∀ w, Sat g w Ps → Sat g w Ps') (h : WO P ops Q g n Cs l K Ps') : WO P ops Q g n Cs l K Ps := fun a w k s => h a w k (f w s)
/-- Something that the world's list tells. -/
theorem WL.know {ops : Array Oper} {Q : Exit → Act → World → Prop} {l : List Oper} {φ : Prop} (f : ∀ w, Sat g w Ps → φ) (h : φ → WL P ops Q g n l K Ps) : WL P ops Q g n l K Ps := fun a w k s => h (f w s) a w k s
theorem WK.know {Q : Exit → Act → World → Prop} {l : List Code} {φ : Prop} (f : ∀ w, Sat g w Ps → φ) (h : φ → WK P Q g n l K Ps) : WK P Q g n l K Ps := fun a w k s => h (f w s) a w k s

end
end Go.Sep
