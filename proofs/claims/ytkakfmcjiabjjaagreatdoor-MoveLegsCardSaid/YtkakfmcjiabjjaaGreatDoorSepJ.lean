/- Results that lie in a cell, and slices that are appended in part. -/
import Derived.Test.YtkakfmcjiabjjaaGreatDoorSepI
namespace Go.Sep
set_option linter.unusedVariables false
set_option linter.unusedSimpArgs false
set_option linter.unusedSectionVars false
set_option linter.unnecessarySimpa false
open Go
variable [Rnd]

section
variable {P : Program} {g : World} {n : Nat} {K : List (Nat × Value)} {Ps R : List HProp} {w : World}

theorem resultsC1 {fn : Func} {ty : TypeId} {t k b o : Nat} {u : TypeId} {p : Bool} {l vs : List Value} (hr : fn.results = #[.cell t ty]) (h : look K t = some (.pointer (some ⟨b, o, none⟩))) (ha : ∀ w, Sem.run P (isAgg ty) w = .ok true w) (hk : ∀ w, Sem.run P (sizeOf ty) w = .ok k w) (hs : Sel (row p b u l) Ps R) (hv : Cells l o k vs) :
    ∀ a, Kn n K a → ∀ w, Sat g w Ps → (results fn a.tmps).run P w = .ok (.agg vs.toArray) w := fun a ka w s => by
  have h' := run_load_cells (P := P) (w := w) (b := b) (o := o) (vs := vs) (fun j v hj => s.cell hs (hv.at j v hj))
  rw [hv.length] at h'
  have := ka.getD h
  rw [Array.getD_eq_getD_getElem?] at this
  simp [results, hr, this, asAddr, loadVar, ha, hk, h']

theorem Sat.srcHi {p : Bool} {t' t : TypeId} {sz : Nat} {ad : Option Addr} {len cap : Nat} {xs : List Value} (s : Sat g w (sl p t sz ad len cap xs :: Ps)) (hk : P.underlying t' = some (.slice t)) (i : Nat) (hi : i ≤ len) : Src P sz t' (.slice ad i cap) i (xs.take (i * sz)) w := by
  have h1 := s.slLen.1
  have h2 : i * sz ≤ len * sz := Nat.mul_le_mul_right _ hi
  have s' : Sat g w (sl p t sz ad len cap (xs.take (i * sz) ++ xs.drop (i * sz)) :: Ps) := by rw [List.take_append_drop]; exact s
  exact (s'.slShrink i (by rw [List.length_take]; omega) hi).src hk

theorem Sat.srcLo {p : Bool} {t' t : TypeId} {sz : Nat} {ad : Option Addr} {len cap : Nat} {xs : List Value} (s : Sat g w (sl p t sz ad len cap xs :: Ps)) (hk : P.underlying t' = some (.slice t)) (l : Nat) (hl : l ≤ len) : Src P sz t' (.slice (cutA ad cap l sz) (len - l) (cap - l)) (len - l) (xs.drop (l * sz)) w :=
  (s.slTail l hl).src hk

end
end Go.Sep
