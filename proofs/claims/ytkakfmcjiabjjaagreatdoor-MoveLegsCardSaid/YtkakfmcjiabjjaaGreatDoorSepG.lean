/- Cuts of slices, an append of a slice onto its own head, clear; a loop over a map. -/
import Derived.Test.YtkakfmcjiabjjaaGreatDoorSepF
namespace Go.Sep
set_option linter.unusedVariables false
set_option linter.unusedSimpArgs false
set_option linter.unusedSectionVars false
set_option linter.unnecessarySimpa false
open Go
variable [Rnd]

section
variable {P : Program} {g : World} {n : Nat} {K : List (Nat × Value)} {Ps R : List HProp} {d : Option Tmp} {T : TypeId} {pos : String} {af : Array Edge} {gd : Option (Nat × Bool)} {w : World}

/-- Where a cut from element l on begins. -/
def cutA (ad : Option Addr) (cap l sz : Nat) : Option Addr := if cap = l then ad else ad.map (·.add (l * sz))

theorem run_sliceBound {kd : IntKind} {i : Int} (j y : Nat) (c : BoundsCode) (hi : i = (j : Int)) (hj : j ≤ y) (w : World) : (Instr.sliceBound (.int kd i) y c).run P w = .ok j w := by
  subst hi
  have : ¬ (y < j) := by omega
  simp [Instr.sliceBound, asIntOf, this]

theorem yld_slice_hi {t e : TypeId} {x z : Operand} {ad : Option Addr} {len cap sz : Nat} {kd : IntKind} {i : Int} (hx : ev K x = some (.slice ad len cap)) (hz : ev K z = some (.int kd i)) (hu : ∀ w, Sem.run P (underlying t) w = .ok (.slice e) w) (hs : ∀ w, Sem.run P (sizeOf e) w = .ok sz w)
    (h : Nat) (hi : i = (h : Int)) (hh : h ≤ cap) : Yld P g n ⟨d, .slice t x none (some z) none, T, pos, af, gd⟩ K Ps (.slice ad h cap) := fun a w ka _ => by
  have hb : ∀ c, (Instr.sliceBound (.int kd i) cap c).run P w = .ok h w := fun c => run_sliceBound h cap c hi hh w
  have hid : (if cap = 0 then ad else ad.map (·.add (0 * sz))) = ad := by
    split
    · rfl
    · cases ad <;> simp [Addr.add_zero']
  simp [execOp, ka.ev hx, ka.ev hz, Instr.sliceAt, Instr.slice, hu, Instr.sliceBounds, hb, hs]
  cases ad <;> simp [Addr.add_zero']

theorem yld_slice_lo {t e : TypeId} {x y : Operand} {ad : Option Addr} {len cap sz : Nat} {kd : IntKind} {i : Int} (hx : ev K x = some (.slice ad len cap)) (hy : ev K y = some (.int kd i)) (hu : ∀ w, Sem.run P (underlying t) w = .ok (.slice e) w) (hs : ∀ w, Sem.run P (sizeOf e) w = .ok sz w)
    (l : Nat) (hi : i = (l : Int)) (hl : l ≤ len) : Yld P g n ⟨d, .slice t x (some y) none none, T, pos, af, gd⟩ K Ps (.slice (cutA ad cap l sz) (len - l) (cap - l)) := fun a w ka _ => by
  have hb : ∀ c, (Instr.sliceBound (.int kd i) len c).run P w = .ok l w := fun c => run_sliceBound l len c hi hl w
  simp [execOp, ka.ev hx, ka.ev hy, Instr.sliceAt, Instr.slice, hu, Instr.sliceBounds, hb, hs, cutA]

theorem yld_slice_lohi {t e : TypeId} {x y z : Operand} {ad : Option Addr} {len cap sz : Nat} {kd k2 : IntKind} {i j : Int} (hx : ev K x = some (.slice ad len cap)) (hy : ev K y = some (.int kd i)) (hz : ev K z = some (.int k2 j)) (hu : ∀ w, Sem.run P (underlying t) w = .ok (.slice e) w) (hs : ∀ w, Sem.run P (sizeOf e) w = .ok sz w)
    (l h : Nat) (hi : i = (l : Int)) (hj : j = (h : Int)) (hl : l ≤ h) (hh : h ≤ cap) : Yld P g n ⟨d, .slice t x (some y) (some z) none, T, pos, af, gd⟩ K Ps (.slice (cutA ad cap l sz) (h - l) (cap - l)) := fun a w ka _ => by
  have hb : ∀ c, (Instr.sliceBound (.int kd i) h c).run P w = .ok l w := fun c => run_sliceBound l h c hi hl w
  have hb2 : ∀ c, (Instr.sliceBound (.int k2 j) cap c).run P w = .ok h w := fun c => run_sliceBound h cap c hj hh w
  simp [execOp, ka.ev hx, ka.ev hy, ka.ev hz, Instr.sliceAt, Instr.slice, hu, Instr.sliceBounds, hb, hb2, hs, cutA]

theorem yld_slice3 {t e : TypeId} {x y z u : Operand} {ad : Option Addr} {len cap sz : Nat} {kd k2 k3 : IntKind} {i j o : Int} (hx : ev K x = some (.slice ad len cap)) (hy : ev K y = some (.int kd i)) (hz : ev K z = some (.int k2 j)) (hm : ev K u = some (.int k3 o)) (hu : ∀ w, Sem.run P (underlying t) w = .ok (.slice e) w) (hs : ∀ w, Sem.run P (sizeOf e) w = .ok sz w)
    (l h m : Nat) (hi : i = (l : Int)) (hj : j = (h : Int)) (ho : o = (m : Int)) (hl : l ≤ h) (hh : h ≤ m) (hc : m ≤ cap) : Yld P g n ⟨d, .slice t x (some y) (some z) (some u), T, pos, af, gd⟩ K Ps (.slice (cutA ad m l sz) (h - l) (m - l)) := fun a w ka _ => by
  have hb : ∀ c, (Instr.sliceBound (.int kd i) h c).run P w = .ok l w := fun c => run_sliceBound l h c hi hl w
  have hb2 : ∀ c, (Instr.sliceBound (.int k2 j) m c).run P w = .ok h w := fun c => run_sliceBound h m c hj hh w
  have hb3 : ∀ c, (Instr.sliceBound (.int k3 o) cap c).run P w = .ok m w := fun c => run_sliceBound m cap c ho hc w
  simp [execOp, ka.ev hx, ka.ev hy, ka.ev hz, ka.ev hm, Instr.sliceAt, Instr.slice, hu, Instr.sliceBounds, hb, hb2, hb3, hs, cutA]

/-- The head of a slice of one's own: what stood behind is room. -/
theorem Sat.slShrink {p : Bool} {t : TypeId} {sz : Nat} {ad : Option Addr} {len cap : Nat} {xs ys : List Value} (len' : Nat) (s : Sat g w (sl p t sz ad len cap (xs ++ ys) :: Ps)) (h : xs.length = len' * sz) (hle : len' ≤ len) : Sat g w (sl p t sz ad len' cap xs :: Ps) := by
  rcases s.slOpen with ⟨h1, h2, h3, h4, s'⟩ | ⟨b, pre, rest, h1, h2, h3, h4, h5, s'⟩
  · subst h1 h2 h3
    obtain rfl : len' = 0 := by omega
    have : xs = [] := by cases xs with | nil => rfl | cons a b => simp at h4
    subst this
    exact s'.nilSl _ _ _
  · subst h1
    refine Sat.conseq (l := [row p b t (pre ++ (xs ++ ys ++ rest))]) (m := [sl p t sz (some ⟨b, pre.length, none⟩) len' cap xs]) s' fun hh e => one_sepL.2 (.inr ⟨b, pre, ys ++ rest, ⟨rfl, h, ?_, by omega, fun v hv => h5 v (by simp [hv])⟩, by simpa using one_sepL.1 e⟩)
    simp only [List.length_append] at h3 ⊢; omega

/-- The tail of a slice. -/
theorem Sat.slTail {p : Bool} {t : TypeId} {sz : Nat} {ad : Option Addr} {len cap : Nat} {xs : List Value} (s : Sat g w (sl p t sz ad len cap xs :: Ps)) (l : Nat) (hl : l ≤ len) : Sat g w (sl p t sz (cutA ad cap l sz) (len - l) (cap - l) (xs.drop (l * sz)) :: Ps) := by
  rcases s.slOpen with ⟨h1, h2, h3, h4, s'⟩ | ⟨b, pre, rest, h1, h2, h3, h4, h5, s'⟩
  · subst h1 h2 h3 h4
    obtain rfl : l = 0 := by omega
    simpa [cutA] using s'.nilSl p t sz
  · subst h1
    have hlz : l * sz ≤ len * sz := Nat.mul_le_mul_right _ hl
    have e1 : xs = xs.take (l * sz) ++ xs.drop (l * sz) := (List.take_append_drop _ _).symm
    by_cases hcl : cap = l
    · obtain rfl : len = l := by omega
      have hd : xs.drop (len * sz) = [] := List.drop_eq_nil_of_le (by omega)
      simp only [cutA, hcl, if_true, Nat.sub_self, hd]
      exact Sat.conseq (l := [row p b t (pre ++ (xs ++ rest))]) (m := [sl p t sz (some ⟨b, pre.length, none⟩) 0 0 []]) s' fun hh e => one_sepL.2 (.inr ⟨b, pre, xs ++ rest, ⟨rfl, by simp, by simp, by omega, by simp⟩, by simpa using one_sepL.1 e⟩)
    · simp only [cutA, hcl, if_false, Option.map_some, Addr.add_lit]
      refine Sat.conseq (l := [row p b t (pre ++ (xs ++ rest))]) (m := [sl p t sz (some ⟨b, pre.length + l * sz, none⟩) (len - l) (cap - l) (xs.drop (l * sz))]) s' fun hh e => one_sepL.2 (.inr ⟨b, pre ++ xs.take (l * sz), rest, ⟨?_, ?_, ?_, by omega, fun v hv => h5 v (List.mem_of_mem_drop hv)⟩, ?_⟩)
      · rw [List.length_append, List.length_take, Nat.min_eq_left (by omega)]
      · rw [List.length_drop, h2, Nat.sub_mul]
      · rw [List.length_drop, Nat.sub_mul]; omega
      · have h0 := one_sepL.1 e
        have e2 : pre ++ (xs ++ rest) = (pre ++ xs.take (l * sz)) ++ (xs.drop (l * sz) ++ rest) := by
          rw [List.append_assoc, ← List.append_assoc (xs.take _), List.take_append_drop]
        rw [e2] at h0
        exact h0

/-- append(s[:k], s[l:]...), k ≤ l, in s' own memory. -/
theorem eff_append_self {t e : TypeId} {x y : Operand} {sz by_ : Nat} {ad : Option Addr} {len cap k l : Nat} {xs : List Value} (hx : ev K x = some (.slice ad k cap)) (hy : ev K y = some (.slice (cutA ad cap l sz) (len - l) (cap - l))) (et : ElemT P t e sz by_)
    (hs : Sel (sl true e sz ad len cap xs) Ps R) (hkl : k ≤ l) (hll : l ≤ len) :
    Eff P g n ⟨d, .call ⟨.builtin .append, #[x, y], #[t, t]⟩, T, pos, af, gd⟩ K Ps Unit (fun _ => True) (fun _ => .slice ad (k + (len - l)) cap) (fun _ => sl true e sz ad len cap (xs.take (k * sz) ++ (xs.drop (l * sz) ++ xs.drop (k * sz + (xs.drop (l * sz)).length))) :: R) := fun a w ka s next Q h => by
  obtain ⟨i, z, hi, hz, hsz, hby, hzs⟩ := et.info
  subst hsz hby
  have s0 := s.sel1 hs
  obtain ⟨hxl, hlc, hx1⟩ := s0.slLen
  have hlz : l * i.size ≤ len * i.size := Nat.mul_le_mul_right _ hll
  have hkz : k * i.size ≤ l * i.size := Nat.mul_le_mul_right _ hkl
  have hset : SetAts (xs.drop (l * i.size)) xs (k * i.size) (xs.take (k * i.size) ++ (xs.drop (l * i.size) ++ xs.drop (k * i.size + (xs.drop (l * i.size)).length))) :=
    SetAts.mk (by rw [List.length_drop, hxl]; omega)
  unfold Oper.wp
  have key : ∃ w', (Builtin.append_ #[t, t] T #[.slice ad k cap, .slice (cutA ad cap l i.size) (len - l) (cap - l)]).run P w = .ok (.slice ad (k + (len - l)) cap) w' ∧
      Sat g w' (sl true e i.size ad len cap (xs.take (k * i.size) ++ (xs.drop (l * i.size) ++ xs.drop (k * i.size + (xs.drop (l * i.size)).length))) :: R) := by
    have hsrc := (s0.slTail l hll).src et.und
    rcases s0.slOpen with ⟨h1, h2, h3, h4, s'⟩ | ⟨b, pre, rest, h1, h2, h3, h4, h5, s'⟩
    · subst h1 h2 h3 h4
      obtain rfl : l = 0 := by omega
      obtain rfl : k = 0 := by omega
      refine ⟨w, ?_, by simpa using s'.nilSl true e i.size⟩
      have hc := hsrc.cells
      simp [cutA] at hc ⊢
      simp [Builtin.append_, run_underlying et.und, sizeOf, typeInfo, hi, Builtin.lenOf, hc]
    · subst h1
      have hdl : (xs.drop (l * i.size)).length = len * i.size - l * i.size := by rw [List.length_drop, hxl]
      have hcell : ∀ j, j < (xs.drop (l * i.size)).length → (w.cell? ⟨b, pre.length + k * i.size + j, none⟩).isSome = true ∧ w.frozen? ⟨b, pre.length + k * i.size + j, none⟩ = false := fun j hj => by
        have hlen : pre.length + k * i.size + j < (pre ++ (xs ++ rest)).length := by
          simp only [List.length_append]; omega
        exact ⟨by rw [s'.rowCell?, List.getElem?_eq_getElem hlen]; rfl, s'.rowFrozen hlen⟩
      have hr := run_append_room_src (P := P) w t t T e i et.und hi b pre.length k cap _ (len - l) _ hsrc (by omega) (fun j hj => (hcell j hj).1) (fun j hj => (hcell j hj).2)
      refine ⟨_, hr, ?_⟩
      have s3 := setCells_sat _ _ _ _ _ s' (hset.app pre rest)
      refine Sat.conseq (l := [row true b e (pre ++ ((xs.take (k * i.size) ++ (xs.drop (l * i.size) ++ xs.drop (k * i.size + (xs.drop (l * i.size)).length))) ++ rest))]) (m := [sl true e i.size (some ⟨b, pre.length, none⟩) len cap _]) s3 fun hh e' => one_sepL.2 (.inr ⟨b, pre, rest, ⟨rfl, by rw [hset.length.1]; exact h2, by rw [hset.length.1]; exact h3, h4, fun v hv => (hset.mem v hv).elim (fun h => h5 v (List.mem_of_mem_drop h)) (h5 v)⟩, one_sepL.1 e'⟩)
  obtain ⟨w', hr, s'⟩ := key
  have e' : (execOp a.eval ⟨d, .call ⟨.builtin .append, #[x, y], #[t, t]⟩, T, pos, af, gd⟩).run P w = .ok (.value (.slice ad (k + (len - l)) cap)) w' := by
    simp [execOp, resolve, invoke, builtin, ka.ev hx, ka.ev hy, hr]
  rw [e']
  exact h () w' trivial s'

/-- clear(s[l:h]) -/
theorem eff_clear {t e : TypeId} {x : Operand} {sz : Nat} {ad : Option Addr} {len cap l k c' : Nat} {xs zs : List Value} {z : Value} {ts : Array TypeId} (hts : ts[0]? = some t) (hx : ev K x = some (.slice (cutA ad cap l sz) k c')) (hu : ∀ w, Sem.run P (underlying t) w = .ok (.slice e) w) (hz : ∀ w, Sem.run P (zeroValue e) w = .ok z w)
    (hzs : (Builtin.zeroCells z.cells k).toList = zs) (hz1 : ∀ v ∈ zs, v.oneCell' = true) (hs : Sel (sl true e sz ad len cap xs) Ps R) (hk0 : 0 < k) (hl : l + k ≤ len) (hzl : zs.length = k * sz) :
    Eff P g n ⟨d, .call ⟨.builtin .clear, #[x], ts⟩, T, pos, af, gd⟩ K Ps Unit (fun _ => True) (fun _ => .tuple #[]) (fun _ => sl true e sz ad len cap (xs.take (l * sz) ++ (zs ++ xs.drop (l * sz + zs.length))) :: R) := fun a w ka s next Q h => by
  have s0 := s.sel1 hs
  obtain ⟨hxl, hlc, hx1⟩ := s0.slLen
  have hlz : (l + k) * sz ≤ len * sz := Nat.mul_le_mul_right _ hl
  rw [Nat.add_mul] at hlz
  have hset : SetAts zs xs (l * sz) (xs.take (l * sz) ++ (zs ++ xs.drop (l * sz + zs.length))) := SetAts.mk (by omega)
  rcases s0.slOpen with ⟨h1, h2, h3, h4, s'⟩ | ⟨b, pre, rest, h1, h2, h3, h4, h5, s'⟩
  · omega
  · subst h1
    obtain ⟨w', hr, s3⟩ := run_store_row (P := P) zs _ _ (pre.length + l * sz) 0 w s' (hset.app pre rest) hz1
    unfold Oper.wp
    have hne : k ≠ 0 := by omega
    have hne2 : cap ≠ l := by omega
    have e' : (execOp a.eval ⟨d, .call ⟨.builtin .clear, #[x], ts⟩, T, pos, af, gd⟩).run P w = .ok (.value (.tuple #[])) w' := by
      simp only [cutA, if_neg hne2, Option.map_some, Addr.add_lit] at hx
      simp [execOp, resolve, invoke, builtin, ka.ev hx, Builtin.clear_, hts, hu, hz, hzs, hr]
    rw [e']
    refine h () w' trivial ?_
    exact Sat.conseq (l := [row true b e (pre ++ ((xs.take (l * sz) ++ (zs ++ xs.drop (l * sz + zs.length))) ++ rest))]) (m := [sl true e sz (some ⟨b, pre.length, none⟩) len cap _]) s3 fun hh e' => one_sepL.2 (.inr ⟨b, pre, rest, ⟨rfl, by rw [hset.length.1]; exact h2, by rw [hset.length.1]; exact h3, h4, fun v hv => (hset.mem v hv).elim (hz1 v) (h5 v)⟩, one_sepL.1 e'⟩)

end
end Go.Sep
