/- Sorted numbers: what Compact and DeleteFunc leave. -/
import Derived.Test.YtkakfmcjiabjjaaGreatDoorSrtL
namespace Go.Sep
set_option linter.unusedVariables false
set_option linter.unusedSimpArgs false
set_option linter.unusedSectionVars false
set_option linter.unnecessarySimpa false
open Go
def cmpI (x y : Int) : Int := x - y
theorem cmpI_swo : SWOc cmpI := ⟨fun x y => by unfold cmpI; omega, fun x y z => by unfold cmpI; omega⟩
def Asc (l : List Int) : Prop := l.Pairwise (fun x y => ¬ cmpI y x < 0)
theorem Asc.get {l : List Int} (h : Asc l) {i j : Nat} {x y : Int} (hij : i < j) (hx : l[i]? = some x) (hy : l[j]? = some y) : x ≤ y := by
  obtain ⟨hi, rfl⟩ := List.getElem?_eq_some_iff.1 hx
  obtain ⟨hj, rfl⟩ := List.getElem?_eq_some_iff.1 hy
  have := List.pairwise_iff_getElem.1 h i j hi hj hij
  unfold cmpI at this
  omega
/-- Strictly increasing. -/
def IncI (l : List Int) : Prop := l.Pairwise (· < ·)
/-- out is what Compact leaves of the first m of l: k of them. -/
structure Cmp (l out : List Int) (k m : Nat) : Prop where
  len : out.length = k
  pos : 0 < k
  le : k ≤ m
  ml : m ≤ l.length
  inc : IncI out
  mem : ∀ x, x ∈ out ↔ x ∈ l.take m
  last : out.getLast? = l[m - 1]?
theorem take_succ_mem {l : List Int} {m : Nat} {x : Int} (h : l[m]? = some x) (y : Int) : y ∈ l.take (m + 1) ↔ y ∈ l.take m ∨ y = x := by
  rw [List.take_add_one, h, List.mem_append]
  simp
theorem IncI.snoc {out : List Int} {x y : Int} (h : IncI out) (hl : out.getLast? = some y) (hy : y < x) : IncI (out ++ [x]) := by
  unfold IncI at h ⊢
  rw [List.pairwise_append]
  refine ⟨h, by simp, fun a ha b hb => ?_⟩
  obtain rfl : b = x := by simpa using hb
  obtain ⟨ys, rfl⟩ := List.getLast?_eq_some_iff.1 hl
  rw [List.pairwise_append] at h
  rcases List.mem_append.1 ha with ha | ha
  · have := h.2.2 a ha y (by simp)
    omega
  · obtain rfl : a = y := by simpa using ha
    exact hy
theorem Cmp.start {l : List Int} (h0 : 0 < l.length) : Cmp l (l.take 1) 1 1 := by
  obtain ⟨x, r, rfl⟩ : ∃ x r, l = x :: r := by
    cases l with
    | nil => simp at h0
    | cons x r => exact ⟨x, r, rfl⟩
  refine ⟨by simp, by omega, by omega, by simp, ?_, fun x => Iff.rfl, by simp⟩
  show List.Pairwise _ [x]
  simp
theorem Cmp.more {l out : List Int} {k m : Nat} (h : Cmp l out k m) (ha : Asc l) {x y : Int} (hx : l[m]? = some x) (hy : l[m - 1]? = some y) (hne : x ≠ y) : Cmp l (out ++ [x]) (k + 1) (m + 1) := by
  have hm := (List.getElem?_eq_some_iff.1 hx).1
  have hle := ha.get (i := m - 1) (j := m) (by have := h.pos; have := h.le; omega) hy hx
  refine ⟨by rw [List.length_append, h.len]; rfl, by omega, by have := h.le; omega, hm, h.inc.snoc (by rw [h.last, hy]) (by omega), fun z => ?_, ?_⟩
  · rw [take_succ_mem hx, List.mem_append, h.mem z]
    simp
  · rw [List.getLast?_concat, show m + 1 - 1 = m from by omega, hx]
theorem Cmp.same {l out : List Int} {k m : Nat} (h : Cmp l out k m) {x : Int} (hx : l[m]? = some x) (hy : l[m - 1]? = some x) : Cmp l out k (m + 1) := by
  have hm := (List.getElem?_eq_some_iff.1 hx).1
  refine ⟨h.len, h.pos, by have := h.le; omega, hm, h.inc, fun z => ?_, ?_⟩
  · rw [take_succ_mem hx, h.mem z]
    constructor
    · exact .inl
    · rintro (h1 | rfl)
      · exact h1
      · rw [← h.mem]
        have := h.last
        rw [hy] at this
        exact List.mem_of_getLast? this
  · rw [show m + 1 - 1 = m from by omega, hx, h.last, hy]
/-- What Compact leaves. -/
structure Cpt (l l2 : List Int) : Prop where
  inc : IncI l2
  mem : ∀ x, x ∈ l2 ↔ x ∈ l
  len : l2.length ≤ l.length
theorem Cmp.done {l out : List Int} {k m : Nat} (h : Cmp l out k m) (hm : m = l.length) : Cpt l out := ⟨h.inc, fun x => by rw [h.mem, hm, List.take_length], by rw [h.len, ← hm]; exact h.le⟩
theorem Cpt.short {l : List Int} (h : l.length < 2) : Cpt l l := by
  refine ⟨?_, fun _ => Iff.rfl, Nat.le_refl _⟩
  match l, h with
  | [], _ => exact List.Pairwise.nil
  | [x], _ => show List.Pairwise _ [x]; simp
theorem filter_more {l : List Int} {i : Nat} {x : Int} (h : l[i]? = some x) (q : Int → Bool) : (l.take (i + 1)).filter q = if q x then (l.take i).filter q ++ [x] else (l.take i).filter q := by
  rw [List.take_add_one, h, List.filter_append]
  by_cases k : q x = true
  · simp [k]
  · simp [k]
theorem set_drop {l out : List Int} {k : Nat} (hk : out.length = k) (hl : k < l.length) (x : Int) : (out ++ l.drop k).set k x = (out ++ [x]) ++ l.drop (k + 1) := by
  subst hk
  rw [List.set_append_right _ _ (Nat.le_refl _), Nat.sub_self, List.drop_eq_getElem_cons hl, List.set_cons_zero, List.append_assoc]
  rfl
theorem get_drop {l out : List Int} {k i : Nat} (hk : out.length = k) (hi : k ≤ i) : (out ++ l.drop k)[i]? = l[i]? := by
  subst hk
  rw [List.getElem?_append_right hi, List.getElem?_drop]
  congr 1
  omega
end Go.Sep
