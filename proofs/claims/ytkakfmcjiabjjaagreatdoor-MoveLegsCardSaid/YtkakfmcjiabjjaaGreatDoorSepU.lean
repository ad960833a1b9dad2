/- Strings: parts of one, two joined. -/
import Derived.Test.YtkakfmcjiabjjaaGreatDoorSepN
namespace Go.Sep
set_option linter.unusedVariables false
set_option linter.unusedSimpArgs false
set_option linter.unusedSectionVars false
set_option linter.unnecessarySimpa false
open Go
variable [rn : Rnd]

section
variable {P : Program} {g : World} {n : Nat} {K : List (Nat × Value)} {Ps R : List HProp} {d : Option Tmp} {T : TypeId} {pos : String} {af : Array Edge} {gd : Option (Nat × Bool)} {w : World}

omit rn in
theorem extract_mk (cs : List UInt8) (l h : Nat) : (⟨cs.toArray⟩ : ByteArray).extract l h = ⟨((cs.drop l).take (h - l)).toArray⟩ := by
  apply ByteArray.ext
  simp [ByteArray.data_extract, List.extract_eq_take_drop]
omit rn in
theorem str_size (cs : List UInt8) : (⟨cs.toArray⟩ : ByteArray).size = cs.length := by simp [ByteArray.size]

theorem yld_sliceStr_lo {t : TypeId} {x y : Operand} {cs : List UInt8} {kd : IntKind} {i : Int} (hx : ev K x = some (.string ⟨cs.toArray⟩)) (hy : ev K y = some (.int kd i)) (hu : ∀ w, Sem.run P (underlying t) w = .ok .string w)
    (l : Nat) (hi : i = (l : Int)) (hl : l ≤ cs.length) : Yld P g n ⟨d, .slice t x (some y) none none, T, pos, af, gd⟩ K Ps (.string ⟨(cs.drop l).toArray⟩) := fun a w ka _ => by
  have hb : ∀ c, (Instr.sliceBound (.int kd i) cs.length c).run P w = .ok l w := fun c => run_sliceBound l cs.length c hi hl w
  simp [execOp, ka.ev hx, ka.ev hy, Instr.sliceAt, Instr.slice, hu, Instr.sliceBounds, hb, extract_mk, str_size]
  rw [List.take_of_length_le (by simp)]

theorem yld_sliceStr_hi {t : TypeId} {x y : Operand} {cs : List UInt8} {kd : IntKind} {i : Int} (hx : ev K x = some (.string ⟨cs.toArray⟩)) (hy : ev K y = some (.int kd i)) (hu : ∀ w, Sem.run P (underlying t) w = .ok .string w)
    (h : Nat) (hi : i = (h : Int)) (hh : h ≤ cs.length) : Yld P g n ⟨d, .slice t x none (some y) none, T, pos, af, gd⟩ K Ps (.string ⟨(cs.take h).toArray⟩) := fun a w ka _ => by
  have hb : ∀ c, (Instr.sliceBound (.int kd i) cs.length c).run P w = .ok h w := fun c => run_sliceBound h cs.length c hi hh w
  simp [execOp, ka.ev hx, ka.ev hy, Instr.sliceAt, Instr.slice, hu, Instr.sliceBounds, hb, extract_mk, str_size]

theorem yld_addStr {t u : TypeId} {x y : Operand} {bs cs : List UInt8} (hx : ev K x = some (.string ⟨bs.toArray⟩)) (hy : ev K y = some (.string ⟨cs.toArray⟩)) (hl : bs.length + cs.length ≤ 9223372036854775807) : Yld P g n ⟨d, .binOp .add t x y u, T, pos, af, gd⟩ K Ps (.string ⟨(bs ++ cs).toArray⟩) :=
  yld_bin hx hy (fun w => by
    have : (⟨bs.toArray⟩ : ByteArray) ++ ⟨cs.toArray⟩ = ⟨(bs ++ cs).toArray⟩ := by
      apply ByteArray.ext
      simp
    have h2 : ¬ ((((⟨bs.toArray⟩ : ByteArray).size + (⟨cs.toArray⟩ : ByteArray).size : Nat) : Int) > IntKind.i64.max) := by
      rw [str_size, str_size]
      simp [IntKind.max, IntKind.bits, IntKind.signed]
      omega
    simp only [eqGuard, binOp, Op.stringOp]
    rw [if_neg h2, this]
    simp [Sem.run_bind, Result.andThen])
end
end Go.Sep
