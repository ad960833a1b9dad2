/- Functions handed to functions: predicates, and where a list first meets one. -/
import Derived.Test.YtkakfmcjiabjjaaGreatDoorSepZ
namespace Go.Sep
set_option linter.unusedVariables false
set_option linter.unusedSimpArgs false
set_option linter.unusedSectionVars false
set_option linter.unnecessarySimpa false
open Go

/-- A function value that answers pr, whatever else it reads in X. -/
structure PredF (P : Program) (f : FuncId) (caps : List Value) (X : HProp) {α : Type} (enc : α → Value) (S : α → Prop) (pr : α → Bool) : Prop where
  call : ∀ args w, Sem.run P (callFunc f args) w = .ok (.enter f args) w
  spec : ∀ x, S x → Triple P f (enc x :: caps).toArray [X] Unit (fun _ => True) (fun _ => .bool (pr x)) (fun _ => [X])

def idxM {α : Type} (pr : α → Bool) (l : List α) : Int := match l.findIdx? pr with | some i => (i : Int) | none => -1
theorem idxM_hit {α : Type} {pr : α → Bool} {l : List α} {i : Nat} {x : α} (hx : l[i]? = some x) (hp : pr x = true) (hno : ∀ (j : Nat) (y : α), j < i → l[j]? = some y → pr y = false) : idxM pr l = i := by
  have : l.findIdx? pr = some i := by
    rw [List.findIdx?_eq_some_iff_getElem]
    obtain ⟨hl, rfl⟩ := List.getElem?_eq_some_iff.1 hx
    exact ⟨hl, hp, fun j hj => by simp [hno j _ hj (List.getElem?_eq_getElem (by omega))]⟩
  rw [idxM, this]
theorem idxM_none {α : Type} {pr : α → Bool} {l : List α} (hno : ∀ (j : Nat) (y : α), l[j]? = some y → pr y = false) : idxM pr l = -1 := by
  have : l.findIdx? pr = none := by
    rw [List.findIdx?_eq_none_iff]
    intro x hx
    obtain ⟨j, hj⟩ := List.getElem?_of_mem hx
    exact hno j x hj
  rw [idxM, this]
theorem idxM_any {α : Type} (pr : α → Bool) (l : List α) : decide (0 ≤ idxM pr l) = l.any pr := by
  unfold idxM
  rcases h : l.findIdx? pr with _ | i
  · rw [List.findIdx?_eq_none_iff] at h
    have : l.any pr = false := by simpa using h
    rw [this]
    rfl
  · obtain ⟨hl, hp, -⟩ := List.findIdx?_eq_some_iff_getElem.1 h
    have : l.any pr = true := List.any_eq_true.2 ⟨_, List.getElem_mem hl, hp⟩
    rw [this]
    simp
end Go.Sep
