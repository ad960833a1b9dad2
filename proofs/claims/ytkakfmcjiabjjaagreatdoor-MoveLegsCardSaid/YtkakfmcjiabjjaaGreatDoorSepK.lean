/- Bits and shifts of whole numbers; text. -/
import Derived.Test.YtkakfmcjiabjjaaGreatDoorSepJ
namespace Go.Sep
set_option linter.unusedVariables false
set_option linter.unusedSimpArgs false
set_option linter.unusedSectionVars false
set_option linter.unnecessarySimpa false
open Go
variable [Rnd]

section
variable {P : Program} {g : World} {n : Nat} {K : List (Nat × Value)} {Ps R : List HProp} {d : Option Tmp} {T : TypeId} {pos : String} {af : Array Edge} {gd : Option (Nat × Bool)} {w : World}

def bAnd (k : IntKind) (x y : Int) : Int := k.wrap ((BitVec.ofInt k.bits x &&& BitVec.ofInt k.bits y).toNat : Int)
def bOr (k : IntKind) (x y : Int) : Int := k.wrap ((BitVec.ofInt k.bits x ||| BitVec.ofInt k.bits y).toNat : Int)
def bXor (k : IntKind) (x y : Int) : Int := k.wrap ((BitVec.ofInt k.bits x ^^^ BitVec.ofInt k.bits y).toNat : Int)
def bAndNot (k : IntKind) (x y : Int) : Int := k.wrap ((BitVec.ofInt k.bits x &&& ~~~ BitVec.ofInt k.bits y).toNat : Int)

theorem yld_and {t u : TypeId} {x y : Operand} {kd : IntKind} {i j r : Int} (hx : ev K x = some (.int kd i)) (hy : ev K y = some (.int kd j)) (hr : bAnd kd i j = r) : Yld P g n ⟨d, .binOp .and t x y u, T, pos, af, gd⟩ K Ps (.int kd r) :=
  yld_bin hx hy fun w => by subst hr; simp [eqGuard, binOp, Op.intBits, Sem.run, pure, bAnd]
theorem yld_or {t u : TypeId} {x y : Operand} {kd : IntKind} {i j r : Int} (hx : ev K x = some (.int kd i)) (hy : ev K y = some (.int kd j)) (hr : bOr kd i j = r) : Yld P g n ⟨d, .binOp .or t x y u, T, pos, af, gd⟩ K Ps (.int kd r) :=
  yld_bin hx hy fun w => by subst hr; simp [eqGuard, binOp, Op.intBits, Sem.run, pure, bOr]
theorem yld_xor {t u : TypeId} {x y : Operand} {kd : IntKind} {i j r : Int} (hx : ev K x = some (.int kd i)) (hy : ev K y = some (.int kd j)) (hr : bXor kd i j = r) : Yld P g n ⟨d, .binOp .xor t x y u, T, pos, af, gd⟩ K Ps (.int kd r) :=
  yld_bin hx hy fun w => by subst hr; simp [eqGuard, binOp, Op.intBits, Sem.run, pure, bXor]
theorem yld_andNot {t u : TypeId} {x y : Operand} {kd : IntKind} {i j r : Int} (hx : ev K x = some (.int kd i)) (hy : ev K y = some (.int kd j)) (hr : bAndNot kd i j = r) : Yld P g n ⟨d, .binOp .andNot t x y u, T, pos, af, gd⟩ K Ps (.int kd r) :=
  yld_bin hx hy fun w => by subst hr; simp [eqGuard, binOp, Op.intBits, Sem.run, pure, bAndNot]
theorem yld_shl {t u : TypeId} {x y : Operand} {kd k2 : IntKind} {i j r : Int} (hx : ev K x = some (.int kd i)) (hy : ev K y = some (.int k2 j)) (h0 : 0 ≤ j) (hr : kd.wrap (i * 2 ^ (min j.toNat kd.bits)) = r) : Yld P g n ⟨d, .binOp .shl t x y u, T, pos, af, gd⟩ K Ps (.int kd r) :=
  yld_bin hx hy fun w => by
    have : ¬ (j < 0) := by omega
    subst hr; simp [eqGuard, binOp, Op.shift, Sem.run, pure, this]
theorem yld_shr {t u : TypeId} {x y : Operand} {kd k2 : IntKind} {i j r : Int} (hx : ev K x = some (.int kd i)) (hy : ev K y = some (.int k2 j)) (h0 : 0 ≤ j) (hr : i.fdiv (2 ^ (min j.toNat kd.bits)) = r) : Yld P g n ⟨d, .binOp .shr t x y u, T, pos, af, gd⟩ K Ps (.int kd r) :=
  yld_bin hx hy fun w => by
    have : ¬ (j < 0) := by omega
    subst hr; simp [eqGuard, binOp, Op.shift, Sem.run, pure, this]

/-! ### Numbers of eight and of sixty-four bits -/

theorem u64wrap (i : Nat) : IntKind.u64.wrap (i : Int) = ((i % 18446744073709551616 : Nat) : Int) := by
  simp [IntKind.wrap, IntKind.signed, IntKind.bits]
theorem u8wrapN (i : Nat) : IntKind.u8.wrap (i : Int) = ((i % 256 : Nat) : Int) := by
  simp [IntKind.wrap, IntKind.signed, IntKind.bits]
theorem bOr_more : ∀ i : Nat, i < 256 → bOr .u8 (i : Int) 128 = ((i % 128 + 128 : Nat) : Int) := by
  have : ∀ i : Fin 256, bOr .u8 ((i.val : Nat) : Int) 128 = ((i.val % 128 + 128 : Nat) : Int) := by decide +kernel
  exact fun i h => this ⟨i, h⟩
theorem bAndNot_more : ∀ i : Nat, i < 256 → bAndNot .u8 (i : Int) 128 = ((i % 128 : Nat) : Int) := by
  have : ∀ i : Fin 256, bAndNot .u8 ((i.val : Nat) : Int) 128 = ((i.val % 128 : Nat) : Int) := by decide +kernel
  exact fun i h => this ⟨i, h⟩
theorem shr64 (i k : Nat) (hk : k ≤ 64) : (i : Int).fdiv (2 ^ (min ((k : Int)).toNat IntKind.u64.bits)) = ((i / 2 ^ k : Nat) : Int) := by
  have : min ((k : Int)).toNat IntKind.u64.bits = k := by simp [IntKind.bits]; omega
  rw [this, Int.fdiv_eq_ediv_of_nonneg _ (by exact Int.le_of_lt (Int.pow_pos (by decide)))]
  norm_cast

theorem bXor64_zero (a : Nat) (h : a < 18446744073709551616) : bXor .u64 (a : Int) 0 = (a : Int) := by
  unfold bXor
  have : BitVec.ofInt IntKind.u64.bits 0 = 0#(IntKind.u64.bits) := by decide
  rw [this, BitVec.xor_zero, BitVec.ofInt_natCast, BitVec.toNat_ofNat, u64wrap]
  simp [IntKind.bits]
  omega
theorem bXor64_ones (a : Nat) (h : a < 18446744073709551616) : bXor .u64 (a : Int) 18446744073709551615 = ((18446744073709551615 - a : Nat) : Int) := by
  unfold bXor
  have : BitVec.ofInt IntKind.u64.bits 18446744073709551615 = BitVec.allOnes IntKind.u64.bits := by decide
  rw [this, BitVec.xor_allOnes, BitVec.ofInt_natCast, BitVec.toNat_not, BitVec.toNat_ofNat, u64wrap]
  simp [IntKind.bits]
  omega
theorem bAnd64_one (a : Nat) (h : a < 18446744073709551616) : bAnd .u64 (a : Int) 1 = ((a % 2 : Nat) : Int) := by
  unfold bAnd
  have : BitVec.ofInt IntKind.u64.bits 1 = 1#(IntKind.u64.bits) := by decide
  rw [this, BitVec.toNat_and, BitVec.ofInt_natCast, BitVec.toNat_ofNat, u64wrap]
  simp [IntKind.bits, Nat.and_one_is_mod]
  omega
theorem i64wrapN (i : Nat) (h : i < 18446744073709551616) : IntKind.i64.wrap (i : Int) = if i < 9223372036854775808 then (i : Int) else (i : Int) - 18446744073709551616 := by
  by_cases hi : i < 9223372036854775808
  · rw [if_pos hi]
    exact w64 (by omega) (by omega)
  · rw [if_neg hi]
    have h1 : (i : Int) % 2 ^ 64 = i := by omega
    have h2 : ((2 : Int) ^ (64 - 1) ≤ (i : Int)) := by omega
    simp [IntKind.wrap, IntKind.signed, IntKind.bits]
    omega
theorem bXori_zero (a : Nat) (h : a < 9223372036854775808) : bXor .i64 (a : Int) 0 = (a : Int) := by
  unfold bXor
  have : BitVec.ofInt IntKind.i64.bits 0 = 0#(IntKind.i64.bits) := by decide
  rw [this, BitVec.xor_zero, BitVec.ofInt_natCast, BitVec.toNat_ofNat]
  have h2 : a % 2 ^ IntKind.i64.bits = a := by simp [IntKind.bits]; omega
  rw [h2, i64wrapN a (by omega), if_pos h]
theorem bXori_ones (a : Nat) (h : a < 9223372036854775808) : bXor .i64 (a : Int) (-1) = -(a : Int) - 1 := by
  unfold bXor
  have : BitVec.ofInt IntKind.i64.bits (-1) = BitVec.allOnes IntKind.i64.bits := by decide
  rw [this, BitVec.xor_allOnes, BitVec.ofInt_natCast, BitVec.toNat_not, BitVec.toNat_ofNat]
  have h2 : 2 ^ IntKind.i64.bits - 1 - a % 2 ^ IntKind.i64.bits = 18446744073709551615 - a := by simp [IntKind.bits]; omega
  rw [h2, i64wrapN _ (by omega), if_neg (by omega)]
  omega
theorem bOr64_add (a b k : Nat) (h : a < 2 ^ k) (hb : a + b * 2 ^ k < 18446744073709551616) : bOr .u64 (a : Int) ((b * 2 ^ k : Nat) : Int) = ((a + b * 2 ^ k : Nat) : Int) := by
  unfold bOr
  rw [BitVec.toNat_or, BitVec.ofInt_natCast, BitVec.ofInt_natCast, BitVec.toNat_ofNat, BitVec.toNat_ofNat, u64wrap]
  have h2 : a % 2 ^ IntKind.u64.bits = a := by simp only [IntKind.bits]; omega
  have h3 : b * 2 ^ k % 2 ^ IntKind.u64.bits = b * 2 ^ k := by simp only [IntKind.bits]; omega
  rw [h2, h3, Nat.or_comm, Nat.mul_comm b, ← Nat.two_pow_add_eq_or_of_lt h, Nat.mul_comm _ b, Nat.add_comm]
  congr 1
  omega

theorem srcStr (w : World) {tx : TypeId} (hk : P.underlying tx = some .string) (cs : List UInt8) : Src P 1 tx (.string ⟨cs.toArray⟩) cs.length (cs.map bv) w := by
  have := Src.ofString (P := P) w hk ⟨cs.toArray⟩
  have h1 : (⟨cs.toArray⟩ : ByteArray).size = cs.length := by simp [ByteArray.size]
  have h2 : byteCells ⟨cs.toArray⟩ = cs.map bv := by simp [byteCells, bv]
  rwa [h1, h2] at this

end
end Go.Sep
