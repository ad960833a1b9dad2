/- Insertion sort: the words of its loops; functions that compare. -/
import Derived.Test.YtkakfmcjiabjjaaGreatDoorSepQ
namespace Go.Sep
set_option linter.unusedVariables false
set_option linter.unusedSimpArgs false
set_option linter.unusedSectionVars false
set_option linter.unnecessarySimpa false
open Go

structure CmpF (P : Program) (f : FuncId) (caps : List Value) (X : HProp) {α : Type} (enc : α → Value) (S : α → Prop) (c : α → α → Int) : Prop where
  call : ∀ args w, Sem.run P (callFunc f args) w = .ok (.enter f args) w
  spec : ∀ x y, S x → S y → Triple P f (enc x :: enc y :: caps).toArray [X] Unit (fun _ => True) (fun _ => .int .i64 (c x y)) (fun _ => [X])

structure SWOc {α : Type} (c : α → α → Int) : Prop where
  asym : ∀ x y, c x y < 0 → ¬ c y x < 0
  ntr : ∀ x y z, ¬ c x y < 0 → ¬ c y z < 0 → ¬ c x z < 0

section
variable {α : Type} {c : α → α → Int} {l cur : List α} {i j : Nat}
/-- The first i are in order. -/
def SrtN (c : α → α → Int) (cur : List α) (i : Nat) : Prop := ∀ p q x y, p < q → q < i → cur[p]? = some x → cur[q]? = some y → ¬ c y x < 0
structure Ins (c : α → α → Int) (l cur : List α) (i j : Nat) : Prop where
  perm : cur.Perm l
  le : j ≤ i
  a : ∀ p q x y, p < q → q ≤ i → p ≠ j → q ≠ j → cur[p]? = some x → cur[q]? = some y → ¬ c y x < 0
  b : ∀ q x y, j < q → q ≤ i → cur[j]? = some x → cur[q]? = some y → c x y < 0
theorem Ins.start (hp : cur.Perm l) (h : SrtN c cur i) : Ins c l cur i i :=
  ⟨hp, Nat.le_refl _, fun p q x y h1 h2 h3 h4 hx hy => h p q x y h1 (by omega) hx hy, fun q x y h1 h2 => by omega⟩
theorem swap_get {x y : α} {p : Nat} (hj0 : 0 < j) (hjl : j < cur.length) : ((cur.set j y).set (j - 1) x)[p]? = if p = j - 1 then some x else if p = j then some y else cur[p]? := by
  rw [List.getElem?_set, List.getElem?_set, List.length_set]
  by_cases h1 : p = j - 1
  · subst h1
    rw [if_pos rfl, if_pos rfl, if_pos (by omega)]
  · rw [if_neg (fun h => h1 h.symm), if_neg h1]
    by_cases h2 : p = j
    · subst h2
      rw [if_pos rfl, if_pos rfl, if_pos hjl]
    · rw [if_neg (fun h => h2 h.symm), if_neg h2]
theorem Ins.step (h : Ins c l cur i j) (hw : SWOc c) (hj0 : 0 < j) {x y : α} (hx : cur[j]? = some x) (hy : cur[j - 1]? = some y) (hlt : c x y < 0) : Ins c l ((cur.set j y).set (j - 1) x) i (j - 1) := by
  have hjl : j < cur.length := (List.getElem?_eq_some_iff.1 hx).1
  have hle := h.le
  refine ⟨?_, by omega, ?_, ?_⟩
  · refine List.Perm.trans ?_ h.perm
    obtain ⟨_, ex⟩ := List.getElem?_eq_some_iff.1 hx
    obtain ⟨hj1, ey⟩ := List.getElem?_eq_some_iff.1 hy
    have := List.set_set_perm (as := cur) (i := j) (j := j - 1) hjl hj1
    rw [ex, ey] at this
    exact this
  · intro p q u v h1 h2 h3 h4 hu hv
    rw [swap_get hj0 hjl, if_neg h3] at hu
    rw [swap_get hj0 hjl, if_neg h4] at hv
    by_cases hp : p = j
    · subst hp
      rw [if_pos rfl] at hu
      rw [if_neg (by omega)] at hv
      cases hu
      exact h.a (p - 1) q y v (by omega) h2 (by omega) (by omega) hy hv
    · rw [if_neg hp] at hu
      by_cases hq : q = j
      · subst hq
        rw [if_pos rfl] at hv
        cases hv
        exact h.a p (q - 1) u y (by omega) (by omega) hp (by omega) hu hy
      · rw [if_neg hq] at hv
        exact h.a p q u v h1 h2 hp hq hu hv
  · intro q u v h1 h2 hu hv
    rw [swap_get hj0 hjl, if_pos rfl] at hu
    cases hu
    rw [swap_get hj0 hjl, if_neg (by omega)] at hv
    by_cases hq : q = j
    · subst hq
      rw [if_pos rfl] at hv
      cases hv
      exact hlt
    · rw [if_neg hq] at hv
      exact h.b q x v (by omega) h2 hx hv
theorem Ins.done (h : Ins c l cur i j) (hw : SWOc c) (hd : j = 0 ∨ ∃ x y, cur[j]? = some x ∧ cur[j - 1]? = some y ∧ ¬ c x y < 0) : SrtN c cur (i + 1) := by
  intro p q x y h1 h2 hx hy
  have hle := h.le
  by_cases hp : p = j
  · subst hp
    exact hw.asym _ _ (h.b q x y h1 (by omega) hx hy)
  · by_cases hq : q = j
    · subst hq
      rcases hd with hd | ⟨x1, y1, e1, e2, hn⟩
      · omega
      · cases e1.symm.trans hy
        by_cases hpq : p = q - 1
        · subst hpq
          cases e2.symm.trans hx
          exact hn
        · exact hw.ntr _ _ _ hn (h.a p (q - 1) x y1 (by omega) (by omega) hp (by omega) hx e2)
    · exact h.a p q x y h1 (by omega) hp hq hx hy
theorem SrtN.pairwise (h : SrtN c cur cur.length) : cur.Pairwise (fun x y => ¬ c y x < 0) := by
  rw [List.pairwise_iff_getElem]
  intro p q hp hq hpq
  exact h p q _ _ hpq hq (List.getElem?_eq_getElem hp) (List.getElem?_eq_getElem hq)
end
end Go.Sep
