/- Arrays. -/
import Derived.Test.YtkakfmcjiabjjaaGreatDoorSepU
namespace Go.Sep
set_option linter.unusedVariables false
set_option linter.unusedSimpArgs false
set_option linter.unusedSectionVars false
set_option linter.unnecessarySimpa false
open Go
variable [rn : Rnd]

section
variable {P : Program} {g : World} {n : Nat} {K : List (Nat × Value)} {Ps R : List HProp} {d : Option Tmp} {T : TypeId} {pos : String} {af : Array Edge} {gd : Option (Nat × Bool)} {w : World}

theorem yld_indexAddrA {t e : TypeId} {x y : Operand} {b o len sz : Nat} {kd : IntKind} {i : Int} (hx : ev K x = some (.pointer (some ⟨b, o, none⟩))) (hy : ev K y = some (.int kd i)) (hu : ∀ w, Sem.run P (underlying t) w = .ok (.array len e) w) (hs : ∀ w, Sem.run P (sizeOf e) w = .ok sz w)
    (k : Nat) (hi : i = (k : Int)) (hl : k < len) : Yld P g n ⟨d, .indexAddr t x y, T, pos, af, gd⟩ K Ps (.pointer (some ⟨b, o + k * sz, none⟩)) := fun a w ka _ => by
  subst hi
  have h1 : (0 : Int) ≤ (k : Int) ∧ (k : Int) < (len : Int) := by omega
  simp [execOp, ka.ev hx, ka.ev hy, Instr.indexAt, asIntOf, hu, hs, Instr.sureAddr, h1, Addr.add, Sem.run_bind, Result.andThen, hl]

theorem yld_buildA {t e : TypeId} {xs : List (Nat × Operand)} {vs : List (Nat × Value)} {zs cs : List Value} {len sz : Nat} (hx : Prts K xs vs) (hz : ∀ w, Sem.run P (zeroValue t) w = .ok (.agg zs.toArray) w) (hu : ∀ w, Sem.run P (underlying t) w = .ok (.array len e) w)
    (hs : ∀ w, Sem.run P (sizeOf e) w = .ok sz w) (hne : (sz == 0) = false) (hf : Fill (fun i => some (i * sz, sz)) zs vs cs) :
    Yld P g n ⟨d, .build t xs.toArray, T, pos, af, gd⟩ K Ps (.agg cs.toArray) := fun a w ka _ => by
  have h := hf.run (fun i off he => by simp at he; simp [he.2] at hne)
  simp [execOp, Instr.build, hz, hu, hs, Value.cells, hx.map ka, h]
end
end Go.Sep
