import Derived.Test.YtnknclbiamhnaaaChanC
import Derived.Test.YtnknclbiamhnaaaSepS
namespace Go.Proofs.Ytnknclbiamhnaaa
set_option linter.unusedVariables false
set_option linter.unusedSimpArgs false
set_option linter.unusedSectionVars false
open Go Go.Sep
attribute [local irreducible] row sl mapO held exL allR byt mapI slr
/-! ### The encoding of package wire -/
def uintB (n : Nat) : List UInt8 := if h : n < 128 then [UInt8.ofNat n] else UInt8.ofNat (n % 128 + 128) :: uintB (n / 128)
decreasing_by omega
theorem uintB_small {n : Nat} (h : n < 128) : uintB n = [UInt8.ofNat n] := by
  rw [uintB, dif_pos h]
theorem uintB_more {n : Nat} (h : ¬ n < 128) : uintB n = UInt8.ofNat (n % 128 + 128) :: uintB (n / 128) := by
  rw [uintB, dif_neg h]
def zig (i : Int) : Nat := if 0 ≤ i then 2 * i.toNat else 2 * (-i - 1).toNat + 1

structure WX where
  ad : Option Addr
  len : Nat
  cap : Nat
/-- A writer and what it has collected. -/
def wrL (q : Nat) (bs : List UInt8) (x : WX) : List HProp := [row true q 78 [.slice x.ad x.len x.cap], sl true 5 1 x.ad x.len x.cap (bs.map bv)]
def wrR (q : Nat) (bs : List UInt8) : HProp := exL (fun _ : WX => True) (wrL q bs)
theorem Sat.wrShut {g w : World} {Ps : List HProp} {q : Nat} {bs : List UInt8} (x : WX) (s : Sat g w (wrL q bs x ++ Ps)) : Sat g w (wrR q bs :: Ps) := by
  unfold wrR
  exact Sat.exShut x trivial s
theorem Sat.wrOpen {g w : World} {Ps : List HProp} {q : Nat} {bs : List UInt8} (s : Sat g w (wrR q bs :: Ps)) : ∃ x : WX, True ∧ Sat g w (wrL q bs x ++ Ps) := by
  unfold wrR at s
  exact s.exOpen
theorem Triple.wrOpen {P : Program} {f : FuncId} {args : Array Value} {Pre : List HProp} {ι : Type} {φ : ι → Prop} {val : ι → Value} {Post : ι → List HProp} {q : Nat} {bs : List UInt8}
    (h : ∀ x : WX, Triple P f args (wrL q bs x ++ Pre) ι φ val Post) : Triple P f args (wrR q bs :: Pre) ι φ val Post := by
  unfold wrR
  exact Triple.openEx fun x _ => h x
attribute [irreducible] wrR
theorem u8of {n : Nat} (h : n < 256) : ((UInt8.ofNat n).toNat : Int) = (n : Int) := by simp; omega
theorem uintB_len : ∀ (d n : Nat), n < 128 ^ (d + 1) → (uintB n).length ≤ d + 1
  | 0, n, h => by rw [uintB_small (by simpa using h)]; simp
  | d + 1, n, h => by
    by_cases hn : n < 128
    · rw [uintB_small hn]; simp
    · rw [uintB_more hn]
      have : n / 128 < 128 ^ (d + 1) := by rw [Nat.div_lt_iff_lt_mul (by omega), ← Nat.pow_succ]; exact h
      have := uintB_len d (n / 128) this
      simp; omega
theorem uintB_le {n : Nat} (h : n < 18446744073709551616) : (uintB n).length ≤ 10 := uintB_len 9 n (by omega)
theorem wrap64n (i : Int) : IntKind.u64.wrap i = i % 18446744073709551616 := by
  simp [IntKind.wrap, IntKind.signed, IntKind.bits]
theorem zigzag_bits (i : Int) (hi : -9223372036854775808 ≤ i ∧ i ≤ 9223372036854775807) :
    bXor .u64 (IntKind.u64.wrap (IntKind.u64.wrap i * 2 ^ (min (1 : Int).toNat IntKind.u64.bits))) (IntKind.u64.wrap (i.fdiv (2 ^ (min (63 : Int).toNat IntKind.i64.bits)))) = (zig i : Int) := by
  have e1 : (2 : Int) ^ (min (1 : Int).toNat IntKind.u64.bits) = 2 := by decide
  have e2 : (2 : Int) ^ (min (63 : Int).toNat IntKind.i64.bits) = 9223372036854775808 := by decide
  rw [e1, e2, Int.fdiv_eq_ediv_of_nonneg _ (by decide), wrap64n, wrap64n, wrap64n]
  unfold zig
  by_cases h : 0 ≤ i
  · have h1 : i % 18446744073709551616 * 2 % 18446744073709551616 = ((2 * i.toNat : Nat) : Int) := by omega
    have h2 : i / 9223372036854775808 % 18446744073709551616 = 0 := by omega
    rw [h1, h2, bXor64_zero _ (by omega), if_pos h]
  · have h1 : i % 18446744073709551616 * 2 % 18446744073709551616 = (((2 * i + 18446744073709551616).toNat : Nat) : Int) := by omega
    have h2 : i / 9223372036854775808 % 18446744073709551616 = 18446744073709551615 := by omega
    rw [h1, h2, bXor64_ones _ (by omega), if_neg h]
    omega
theorem zig_lt (i : Int) (hi : -9223372036854775808 ≤ i ∧ i ≤ 9223372036854775807) : zig i < 18446744073709551616 := by
  unfold zig
  split <;> omega
def rdL (q : Nat) (bs : List UInt8) (e : Int) (x : WX) : List HProp := [row true q 101 [.slice x.ad x.len x.cap, .int .i64 e], sl true 5 1 x.ad x.len x.cap (bs.map bv)]
/-- A reader: the bytes that are left, the first error. -/
def rdR (q : Nat) (bs : List UInt8) (e : Int) : HProp := exL (fun _ : WX => True) (rdL q bs e)
theorem Sat.rdShut {g w : World} {Ps : List HProp} {q : Nat} {bs : List UInt8} {e : Int} (x : WX) (s : Sat g w (rdL q bs e x ++ Ps)) : Sat g w (rdR q bs e :: Ps) := by
  unfold rdR
  exact Sat.exShut x trivial s
theorem Sat.rdOpen {g w : World} {Ps : List HProp} {q : Nat} {bs : List UInt8} {e : Int} (s : Sat g w (rdR q bs e :: Ps)) : ∃ x : WX, True ∧ Sat g w (rdL q bs e x ++ Ps) := by
  unfold rdR at s
  exact s.exOpen
theorem Triple.rdOpen {P : Program} {f : FuncId} {args : Array Value} {Pre : List HProp} {ι : Type} {φ : ι → Prop} {val : ι → Value} {Post : ι → List HProp} {q : Nat} {bs : List UInt8} {e : Int}
    (h : ∀ x : WX, Triple P f args (rdL q bs e x ++ Pre) ι φ val Post) : Triple P f args (rdR q bs e :: Pre) ι φ val Post := by
  unfold rdR
  exact Triple.openEx fun x _ => h x
attribute [irreducible] rdR
def failE (e c : Int) : Int := if e = 0 then c else e
/-- next: the byte, what is left, the error. -/
def nextM (bs : List UInt8) (e : Int) : UInt8 × List UInt8 × Int := match bs with
  | [] => (0, [], failE e 3)
  | b :: bs => if e = 0 then (b, bs, 0) else (0, b :: bs, e)
def unzig (z : Nat) : Int := if z % 2 = 0 then (z / 2 : Nat) else -((z / 2 : Nat) : Int) - 1
theorem unzig_bits (z : Nat) (hz : z < 18446744073709551616) :
    bXor .i64 (IntKind.i64.wrap ((z : Int).fdiv (2 ^ (min (1 : Int).toNat IntKind.u64.bits)))) (IntKind.i64.wrap (-(IntKind.i64.wrap (bAnd .u64 (z : Int) 1)))) = unzig z := by
  have e1 : (2 : Int) ^ (min (1 : Int).toNat IntKind.u64.bits) = 2 := by decide
  rw [e1, Int.fdiv_eq_ediv_of_nonneg _ (by decide), bAnd64_one z hz]
  have h1 : ((z : Int) / 2) = ((z / 2 : Nat) : Int) := by omega
  rw [h1, i64wrapN _ (by omega), if_pos (by omega), i64wrapN _ (by omega), if_pos (by omega)]
  unfold unzig
  by_cases h : z % 2 = 0
  · rw [if_pos h, h]
    have : IntKind.i64.wrap (-((0 : Nat) : Int)) = 0 := by decide
    rw [this, bXori_zero _ (by omega)]
  · have h2 : z % 2 = 1 := by omega
    rw [if_neg h, h2]
    have : IntKind.i64.wrap (-((1 : Nat) : Int)) = -1 := by decide
    rw [this, bXori_ones _ (by omega)]
/-- What Uint reads from place i on, n so far: the number and the rest. -/
def uintR : Nat → Nat → List UInt8 → Option (Nat × List UInt8)
  | _, _, [] => none
  | i, n, c :: bs => if (i = 9 ∧ 1 < c.toNat) ∨ (0 < i ∧ c.toNat = 0) then none else if c.toNat < 128 then some (n + c.toNat % 128 * 2 ^ (7 * i), bs) else uintR (i + 1) (n + c.toNat % 128 * 2 ^ (7 * i)) bs
def uintE (bs : List UInt8) (e : Int) : Option (Nat × List UInt8) := if e = 0 then uintR 0 0 bs else none
theorem shl_or {c n i : Nat} (hi : i ≤ 9) (hn : n < 2 ^ (7 * i)) (hc : i = 9 → c ≤ 1) (hc2 : c < 128) : n + c * 2 ^ (7 * i) < 2 ^ (7 * (i + 1)) ∧ n + c * 2 ^ (7 * i) < 18446744073709551616 := by
  have h1 : 2 ^ (7 * (i + 1)) = 128 * 2 ^ (7 * i) := by rw [show 7 * (i + 1) = 7 + 7 * i by omega, Nat.pow_add]
  have h2 : c * 2 ^ (7 * i) ≤ 127 * 2 ^ (7 * i) := Nat.mul_le_mul_right _ (by omega)
  refine ⟨by rw [h1]; omega, ?_⟩
  by_cases h9 : i = 9
  · subst h9
    have := hc rfl
    have h3 : c * 2 ^ (7 * 9) ≤ 1 * 2 ^ (7 * 9) := Nat.mul_le_mul_right _ this
    have h4 : (2 : Nat) ^ (7 * 9) = 9223372036854775808 := by decide
    rw [h4] at h3 hn ⊢
    omega
  · have h5 : 2 ^ (7 * i) ≤ 2 ^ 56 := Nat.pow_le_pow_right (by omega) (by omega)
    have h6 : (2 : Nat) ^ 56 = 72057594037927936 := by decide
    rw [h6] at h5
    omega
theorem orBits {n b i : Nat} (hi : i ≤ 9) (hn : n < 2 ^ (7 * i)) (hb : i = 9 → b % 128 ≤ 1) :
    bOr .u64 (n : Int) (IntKind.u64.wrap (((b % 128 : Nat) : Int) * 2 ^ (min ((7 : Int) * i).toNat IntKind.u64.bits))) = ((n + b % 128 * 2 ^ (7 * i) : Nat) : Int) := by
  obtain ⟨h1, h2⟩ := shl_or (c := b % 128) hi hn hb (by omega)
  have e : min ((7 : Int) * i).toNat IntKind.u64.bits = 7 * i := by simp only [IntKind.bits]; omega
  rw [e, show (((b % 128 : Nat) : Int) * 2 ^ (7 * i)) = ((b % 128 * 2 ^ (7 * i) : Nat) : Int) from by norm_cast, u64wrap, Nat.mod_eq_of_lt (by omega), bOr64_add _ _ _ hn h2]
theorem uintR_more {i n : Nat} {c : UInt8} {bs : List UInt8} (h1 : ¬ ((i = 9 ∧ 1 < c.toNat) ∨ (0 < i ∧ c.toNat = 0))) (h2 : ¬ c.toNat < 128) : uintR i n (c :: bs) = uintR (i + 1) (n + c.toNat % 128 * 2 ^ (7 * i)) bs := by
  rw [uintR, if_neg h1, if_neg h2]
theorem uintR_lt : ∀ {bs : List UInt8} {i n v : Nat} {r : List UInt8}, i ≤ 9 → n < 2 ^ (7 * i) → uintR i n bs = some (v, r) → v < 18446744073709551616 ∧ r.length < bs.length
  | [], _, _, _, _, _, _, h => by simp [uintR] at h
  | c :: bs, i, n, v, r, hi, hn, h => by
    rw [uintR] at h
    split at h
    · cases h
    · rename_i h1
      have hs := shl_or (c := c.toNat % 128) hi hn
      split at h
      · simp only [Option.some.injEq, Prod.mk.injEq] at h
        obtain ⟨rfl, rfl⟩ := h
        exact ⟨(hs (by omega) (by omega)).2, by simp⟩
      · have := uintR_lt (by omega) (hs (by omega) (by omega)).1 h
        exact ⟨this.1, by simp; omega⟩
theorem uintE_lt (bs : List UInt8) (e : Int) : (((uintE bs e).map Prod.fst).getD 0) < 18446744073709551616 := by
  unfold uintE
  split
  · rcases h : uintR 0 0 bs with _ | ⟨v, r⟩
    · simp
    · simpa using (uintR_lt (by omega) (by simp) h).1
  · simp
theorem nextM_drop {r : List UInt8} {i : Nat} {c : UInt8} (h : r[i]? = some c) : nextM (r.drop i) 0 = (c, r.drop (i + 1), 0) := by
  obtain ⟨hi, rfl⟩ := List.getElem?_eq_some_iff.1 h
  rw [List.drop_eq_getElem_cons hi]
  rfl
theorem uintE_e {bs r : List UInt8} {e : Int} {n : Nat} (h : uintE bs e = some (n, r)) : e = 0 := by
  unfold uintE at h
  by_cases he : e = 0
  · exact he
  · rw [if_neg he] at h; cases h
/-- A byte slice with its length ahead, and what is left. -/
def rawE (bs : List UInt8) (e : Int) : Option (List UInt8 × List UInt8) := match uintE bs e with
  | some (n, r) => if n ≤ r.length then some (r.take n, r.drop n) else none
  | none => none
def rawV (bs : List UInt8) (e : Int) : List UInt8 := ((rawE bs e).map Prod.fst).getD []
theorem uintE_some {bs r : List UInt8} {e : Int} {n : Nat} (h : uintE bs e = some (n, r)) : n < 18446744073709551616 ∧ r.length < bs.length := by
  unfold uintE at h
  split at h
  · exact uintR_lt (by omega) (by simp) h
  · cases h
theorem places101 (w : World) : ∀ {fs : Array Field}, Try.prog.underlying 101 = some (.struct fs) → Sem.run Try.prog (fs.mapM fun f => Prod.mk f.offset <$> sizeOf f.type) w = .ok #[(0, 1), (1, 1)] w := by
  intro fs h
  rw [Try.underlying101] at h
  cases h
  simp
set_option maxRecDepth 20000 in
set_option maxHeartbeats 1000000 in
theorem wrUint_spec (q : Nat) (bs : List UInt8) (m : Nat) (hm : m < 18446744073709551616) (hb : bs.length ≤ 1000000) :
    Triple Try.prog 38 #[.pointer (some ⟨q, 0, none⟩), .int .u64 (m : Int)] [wrR q bs] (Unit) (fun _ => True) (fun _ => .tuple #[]) (fun _ => [wrR q (bs ++ uintB m)]) := by
  refine Triple.wrOpen ?_
  rintro ⟨ad, len, cap⟩
  dsimp only [wrL]
  refine Triple.of_body (args := [.pointer (some ⟨q, 0, none⟩), .int .u64 (m : Int)]) Try.func38 rfl Try.ntmps38 (by simp) (fun g F => ?_)
  dsimp only [numb, List.cons_append, List.nil_append]
  refine WK.know (fun w s => Sat.slLen (s.sel1 (A := sl true 5 1 ad len cap (bs.map bv)) (by repeat (first | exact .here | apply Sel.there)))) (fun hkn => ?_)
  obtain ⟨n1, -⟩ := hkn
  simp only [Nat.mul_one, List.length_map] at n1
  refine WK.seq ?_
  refine WK.block ?_
  refine WK.loop (ι := Nat × List UInt8 × Option Addr × Nat) (fun x => x.1 ≤ m ∧ x.2.1 ++ uintB x.1 = bs ++ uintB m) (fun x => [(0, .pointer (some ⟨q, 0, none⟩)), (1, .int .u64 (x.1 : Int))]) (fun x => row true q 78 [.slice x.2.2.1 x.2.1.length x.2.2.2] :: sl true 5 1 x.2.2.1 x.2.1.length x.2.2.2 (x.2.1.map bv) :: F) (fun x => x.1) ((m, bs, ad, cap)) (⟨Nat.le_refl _, rfl⟩) (by repeat (first | exact KK.nil | refine KK.cons (by first | rfl | (simp; done)) ?_)) (by (try dsimp only); rw [n1]; exact (by repeat (first | exact SelL.nil | exact SelL.self | apply SelL.cons | exact Sel.here | apply Sel.there | apply SelL.skip))) ?_
  rintro ⟨k, cs, ad2, cap2⟩ ⟨hk, hcs⟩ N hN
  dsimp only at hk hcs ⊢
  have hlen := congrArg List.length hcs
  simp only [List.length_append] at hlen
  have hu := uintB_le hm
  refine WK.seq ?_
  refine WK.seq ?_
  refine WK.region ?_
  refine WL.yld (wanted_plain (by rfl)) (yld_move (by rfl)) (by rfl) (by decide) ?_
  refine WL.yld (wanted_plain (by rfl)) (yld_geq (by rfl) (by rfl)) (by rfl) (by decide) ?_
  refine WL.done ?_
  refine WK.cond (by rfl) (fun hc5 => ?_) (fun hc5 => ?_)
  · skip
    have hc5 := of_decide_eq_true hc5
    refine WK.skip ?_
    refine WK.seq ?_
    refine WK.block ?_
    refine WK.region ?_
    refine WL.yld (wanted_plain (by rfl)) (yld_move (by rfl)) (by rfl) (by decide) ?_
    refine WL.yld (wanted_plain (by rfl)) (yld_move (by rfl)) (by rfl) (by decide) ?_
    refine WL.yld (wanted_plain (by rfl)) (yld_nilCheck (by rfl)) (by rfl) (by decide) ?_
    refine WL.yld (wanted_plain (by rfl)) (yld_fieldAddr (by rfl) (by exact Try.runUnderlying78) (by rfl) (by exact Try.sizeOf31) (by rfl) (by rfl)) (by rfl) (by decide) ?_
    refine WL.yld (wanted_plain (by rfl)) (yld_load (by rfl) (by exact Try.isAgg31) (by repeat (first | exact .here | apply Sel.there)) (by rfl)) (by rfl) (by decide) ?_
    refine WL.yld (wanted_plain (by rfl)) (yld_move (by rfl)) (by rfl) (by decide) ?_
    refine WL.yld (wanted_plain (by rfl)) (yld_convInt (by rfl) (by exact Try.runUnderlying75) (by exact Try.runUnderlying5) (by exact u8wrapN k)) (by rfl) (by decide) ?_
    refine WL.yld (wanted_plain (by rfl)) (yld_or (by rfl) (by rfl) (show bOr .u8 ((k % 256 : Nat) : Int) 128 = ((UInt8.ofNat (k % 128 + 128)).toNat : Int) from by rw [bOr_more _ (by omega), u8of (by omega)]; congr 1; omega)) (by rfl) (by decide) ?_
    refine WL.eff (wanted_plain (by rfl)) (eff_mkSlice1 (by rfl) (by rfl) (by exact Try.runUnderlying31) (by exact Try.sizeOf5) (by exact Try.zeroValue5) (by rfl) (by rfl) (by decide) (by rfl)) (by rfl) (by decide) ?_
    rintro b16 -
    try dsimp only
    refine WL.eff (wanted_plain (by rfl)) (eff_append (by rfl) (by rfl) (by exact elem31) (by exact Try.underlying31) (by repeat (first | exact SelL.nil | exact SelL.self | apply SelL.cons | exact Sel.here | apply Sel.there | apply SelL.skip)) (by omega) (by omega)) (by rfl) (by decide) ?_
    rintro ⟨ad17, cap17⟩ -
    try dsimp only
    refine WL.yld (wanted_plain (by rfl)) (yld_nilCheck (by rfl)) (by rfl) (by decide) ?_
    refine WL.yld (wanted_plain (by rfl)) (yld_fieldAddr (by rfl) (by exact Try.runUnderlying78) (by rfl) (by exact Try.sizeOf31) (by rfl) (by rfl)) (by rfl) (by decide) ?_
    refine WL.eff0 (wanted_plain (by rfl)) (eff_store (by rfl) (by rfl) (by exact Try.sizeOf31) (by rfl) (by rfl) (by rfl) (by repeat (first | exact .here | apply Sel.there)) (by repeat (first | exact SetAts.nil | apply SetAts.cons | exact SetAt.here | apply SetAt.there))) (by rfl) ?_
    rintro _ -
    try dsimp only
    refine WL.done ?_
    refine WK.endBlock ?_
    refine WK.region ?_
    refine WL.yld (wanted_plain (by rfl)) (yld_move (by rfl)) (by rfl) (by decide) ?_
    refine WL.yld (wanted_plain (by rfl)) (yld_shr (by rfl) (by rfl) (by omega) (by exact shr64 k 7 (by omega))) (by rfl) (by decide) ?_
    refine WL.yld (wanted_plain (by rfl)) (yld_assign (by rfl)) (by rfl) (by decide) ?_
    refine WL.done ?_
    have e : (cs ++ [UInt8.ofNat (k % 128 + 128)]) ++ uintB (k / 128) = bs ++ uintB m := by rw [← hcs, uintB_more (n := k) (by omega), List.append_assoc]; rfl
    apply WK.next hN (k / 128, cs ++ [UInt8.ofNat (k % 128 + 128)], ad17, cap17) ⟨by dsimp only; omega, e⟩ (by dsimp only; omega) (by repeat (first | exact KK.nil | refine KK.cons (by first | rfl | (simp; done)) ?_))
    dsimp only
    rw [List.length_append, List.map_append]
    exact (by repeat (first | exact SelL.nil | exact SelL.self | apply SelL.cons | exact Sel.here | apply Sel.there | apply SelL.skip))
  · skip
    have hc5 := of_decide_eq_false hc5
    refine WK.exit ?_
    repeat (first | refine XQ.then_ ?_ | refine XQ.block (by rfl) ?_)
    refine XQ.here ?_
    refine WK.region ?_
    refine WL.yld (wanted_plain (by rfl)) (yld_move (by rfl)) (by rfl) (by decide) ?_
    refine WL.yld (wanted_plain (by rfl)) (yld_move (by rfl)) (by rfl) (by decide) ?_
    refine WL.yld (wanted_plain (by rfl)) (yld_nilCheck (by rfl)) (by rfl) (by decide) ?_
    refine WL.yld (wanted_plain (by rfl)) (yld_fieldAddr (by rfl) (by exact Try.runUnderlying78) (by rfl) (by exact Try.sizeOf31) (by rfl) (by rfl)) (by rfl) (by decide) ?_
    refine WL.yld (wanted_plain (by rfl)) (yld_load (by rfl) (by exact Try.isAgg31) (by repeat (first | exact .here | apply Sel.there)) (by rfl)) (by rfl) (by decide) ?_
    refine WL.yld (wanted_plain (by rfl)) (yld_move (by rfl)) (by rfl) (by decide) ?_
    refine WL.yld (wanted_plain (by rfl)) (yld_convInt (by rfl) (by exact Try.runUnderlying75) (by exact Try.runUnderlying5) (show IntKind.u8.wrap (k : Int) = ((UInt8.ofNat k).toNat : Int) from by rw [u8wrapN, u8of (by omega)]; congr 1; omega)) (by rfl) (by decide) ?_
    refine WL.eff (wanted_plain (by rfl)) (eff_mkSlice1 (by rfl) (by rfl) (by exact Try.runUnderlying31) (by exact Try.sizeOf5) (by exact Try.zeroValue5) (by rfl) (by rfl) (by decide) (by rfl)) (by rfl) (by decide) ?_
    rintro b27 -
    try dsimp only
    refine WL.eff (wanted_plain (by rfl)) (eff_append (by rfl) (by rfl) (by exact elem31) (by exact Try.underlying31) (by repeat (first | exact SelL.nil | exact SelL.self | apply SelL.cons | exact Sel.here | apply Sel.there | apply SelL.skip)) (by omega) (by omega)) (by rfl) (by decide) ?_
    rintro ⟨ad28, cap28⟩ -
    try dsimp only
    refine WL.yld (wanted_plain (by rfl)) (yld_nilCheck (by rfl)) (by rfl) (by decide) ?_
    refine WL.yld (wanted_plain (by rfl)) (yld_fieldAddr (by rfl) (by exact Try.runUnderlying78) (by rfl) (by exact Try.sizeOf31) (by rfl) (by rfl)) (by rfl) (by decide) ?_
    refine WL.eff0 (wanted_plain (by rfl)) (eff_store (by rfl) (by rfl) (by exact Try.sizeOf31) (by rfl) (by rfl) (by rfl) (by repeat (first | exact .here | apply Sel.there)) (by repeat (first | exact SetAts.nil | apply SetAts.cons | exact SetAt.here | apply SetAt.there))) (by rfl) ?_
    rintro _ -
    try dsimp only
    refine WL.done ?_
    refine WK.fall (results0 (by rfl)) (fun w s => ?_)
    have e : bs ++ uintB m = cs ++ [UInt8.ofNat k] := by rw [← hcs, uintB_small (by omega)]
    refine ⟨(), trivial, rfl, ?_⟩
    rw [e]
    refine Sat.wrShut ⟨ad28, cs.length + 1, cap28⟩ ?_
    dsimp only [wrL, List.cons_append, List.nil_append]
    rw [List.map_append]
    exact s.toCs (by repeat (first | exact SelL.nil | exact SelL.self | apply SelL.cons | exact Sel.here | apply Sel.there | apply SelL.skip))
set_option maxRecDepth 20000 in
set_option maxHeartbeats 1000000 in
theorem zigzag_spec (i : Int) (hi : -9223372036854775808 ≤ i ∧ i ≤ 9223372036854775807) :
    Triple Try.prog 64 #[.int .i64 i] [] (Unit) (fun _ => True) (fun _ => .int .u64 (zig i : Int)) (fun _ => []) := by
  refine Triple.of_body (args := [.int .i64 i]) Try.func64 rfl Try.ntmps64 (by simp) (fun g F => ?_)
  dsimp only [numb, List.cons_append, List.nil_append]
  refine WK.seq ?_
  refine WK.region ?_
  refine WL.yld (wanted_plain (by rfl)) (yld_assign (by rfl)) (by rfl) (by decide) ?_
  refine WL.done ?_
  refine WK.seq ?_
  refine WK.region ?_
  refine WL.yld (wanted_plain (by rfl)) (yld_move (by rfl)) (by rfl) (by decide) ?_
  refine WL.yld (wanted_plain (by rfl)) (yld_convInt (by rfl) (by exact Try.runUnderlying3) (by exact Try.runUnderlying75) (by rfl)) (by rfl) (by decide) ?_
  refine WL.yld (wanted_plain (by rfl)) (yld_shl (by rfl) (by rfl) (by omega) (by rfl)) (by rfl) (by decide) ?_
  refine WL.yld (wanted_plain (by rfl)) (yld_move (by rfl)) (by rfl) (by decide) ?_
  refine WL.yld (wanted_plain (by rfl)) (yld_shr (by rfl) (by rfl) (by omega) (by rfl)) (by rfl) (by decide) ?_
  refine WL.yld (wanted_plain (by rfl)) (yld_convInt (by rfl) (by exact Try.runUnderlying3) (by exact Try.runUnderlying75) (by rfl)) (by rfl) (by decide) ?_
  refine WL.yld (wanted_plain (by rfl)) (yld_xor (by rfl) (by rfl) (by exact zigzag_bits i hi)) (by rfl) (by decide) ?_
  refine WL.yld (wanted_plain (by rfl)) (yld_assign (by rfl)) (by rfl) (by decide) ?_
  refine WL.done ?_
  refine WK.ret ?_
  repeat (first | refine RQ.block ?_ | refine RQ.then_ ?_)
  refine RQ.body (results1 (by rfl) (by rfl)) (fun w s => ?_)
  exact ⟨(), trivial, rfl, s⟩
set_option maxRecDepth 20000 in
set_option maxHeartbeats 1000000 in
theorem wrInt_spec (q : Nat) (bs : List UInt8) (i : Int) (hi : -9223372036854775808 ≤ i ∧ i ≤ 9223372036854775807) (hb : bs.length ≤ 1000000) :
    Triple Try.prog 48 #[.pointer (some ⟨q, 0, none⟩), .int .i64 i] [wrR q bs] (Unit) (fun _ => True) (fun _ => .tuple #[]) (fun _ => [wrR q (bs ++ uintB (zig i))]) := by
  refine Triple.of_body (args := [.pointer (some ⟨q, 0, none⟩), .int .i64 i]) Try.func48 rfl Try.ntmps48 (by simp) (fun g F => ?_)
  dsimp only [numb, List.cons_append, List.nil_append]
  refine WK.region ?_
  refine WL.yld (wanted_plain (by rfl)) (yld_move (by rfl)) (by rfl) (by decide) ?_
  refine WL.yld (wanted_plain (by rfl)) (yld_move (by rfl)) (by rfl) (by decide) ?_
  refine WL.eff (wanted_plain (by rfl)) (eff_call (by exact Try.call64) (by repeat (first | exact Evs.nil | apply Evs.cons | rfl)) (by repeat (first | exact SelL.nil | exact SelL.self | apply SelL.cons | exact Sel.here | apply Sel.there | apply SelL.skip)) (zigzag_spec i hi)) (by rfl) (by decide) ?_
  rintro _ -
  try dsimp only
  refine WL.eff (wanted_plain (by rfl)) (eff_call (by exact Try.call38) (by repeat (first | exact Evs.nil | apply Evs.cons | rfl)) (by repeat (first | exact SelL.nil | exact SelL.self | apply SelL.cons | exact Sel.here | apply Sel.there | apply SelL.skip)) (wrUint_spec q bs (zig i) (zig_lt i hi) hb)) (by rfl) (by decide) ?_
  rintro _ -
  try dsimp only
  refine WL.done ?_
  refine WK.fall (results0 (by rfl)) (fun w s => ?_)
  exact ⟨(), trivial, rfl, s⟩
set_option maxRecDepth 20000 in
set_option maxHeartbeats 1000000 in
theorem wrText_spec (q : Nat) (bs cs : List UInt8) (hb : bs.length ≤ 500000) (hc : cs.length ≤ 400000) :
    Triple Try.prog 65 #[.pointer (some ⟨q, 0, none⟩), .string ⟨cs.toArray⟩] [wrR q bs] (Unit) (fun _ => True) (fun _ => .tuple #[]) (fun _ => [wrR q (bs ++ uintB cs.length ++ cs)]) := by
  refine Triple.of_body (args := [.pointer (some ⟨q, 0, none⟩), .string ⟨cs.toArray⟩]) Try.func65 rfl Try.ntmps65 (by simp) (fun g F => ?_)
  dsimp only [numb, List.cons_append, List.nil_append]
  have hu := uintB_le (n := cs.length) (by omega)
  refine WK.seq ?_
  refine WK.region ?_
  refine WL.yld (wanted_plain (by rfl)) (yld_move (by rfl)) (by rfl) (by decide) ?_
  refine WL.yld (wanted_plain (by rfl)) (yld_move (by rfl)) (by rfl) (by decide) ?_
  refine WL.yld (wanted_plain (by rfl)) (yld_lenS (by rfl) (by exact Try.runUnderlying9)) (by rfl) (by decide) ?_
  refine WL.yld (wanted_plain (by rfl)) (yld_convInt (by rfl) (by exact Try.runUnderlying3) (by exact Try.runUnderlying75) (show IntKind.u64.wrap ((⟨cs.toArray⟩ : ByteArray).size : Int) = ((cs.length : Nat) : Int) from by rw [show ((⟨cs.toArray⟩ : ByteArray).size) = cs.length from by simp [ByteArray.size], u64wrap]; congr 1; omega)) (by rfl) (by decide) ?_
  refine WL.eff (wanted_plain (by rfl)) (eff_call (by exact Try.call38) (by repeat (first | exact Evs.nil | apply Evs.cons | rfl)) (by repeat (first | exact SelL.nil | exact SelL.self | apply SelL.cons | exact Sel.here | apply Sel.there | apply SelL.skip)) (wrUint_spec q bs cs.length (by omega) (by omega))) (by rfl) (by decide) ?_
  rintro _ -
  try dsimp only
  refine WL.done ?_
  refine WK.openS (fun w s => Sat.wrOpen (s.sel1 (A := wrR q (bs ++ uintB cs.length)) (by repeat (first | exact .here | apply Sel.there)))) ?_
  rintro ⟨ad, len, cap⟩ -
  dsimp only [wrL, List.cons_append, List.nil_append]
  refine WK.know (fun w s => Sat.slLen (s.sel1 (A := sl true 5 1 ad len cap ((bs ++ uintB cs.length).map bv)) (by repeat (first | exact .here | apply Sel.there)))) (fun hkn => ?_)
  obtain ⟨n1, -⟩ := hkn
  simp only [Nat.mul_one, List.length_map, List.length_append] at n1
  refine WK.region ?_
  refine WL.yld (wanted_plain (by rfl)) (yld_move (by rfl)) (by rfl) (by decide) ?_
  refine WL.yld (wanted_plain (by rfl)) (yld_move (by rfl)) (by rfl) (by decide) ?_
  refine WL.yld (wanted_plain (by rfl)) (yld_nilCheck (by rfl)) (by rfl) (by decide) ?_
  refine WL.yld (wanted_plain (by rfl)) (yld_fieldAddr (by rfl) (by exact Try.runUnderlying78) (by rfl) (by exact Try.sizeOf31) (by rfl) (by rfl)) (by rfl) (by decide) ?_
  refine WL.yld (wanted_plain (by rfl)) (yld_load (by rfl) (by exact Try.isAgg31) (by repeat (first | exact .here | apply Sel.there)) (by rfl)) (by rfl) (by decide) ?_
  refine WL.yld (wanted_plain (by rfl)) (yld_move (by rfl)) (by rfl) (by decide) ?_
  refine WL.eff (wanted_plain (by rfl)) (eff_appendX (n2 := cs.length) (ys := cs.map bv) (by rfl) (by rfl) (by exact elem31) (by repeat (first | exact .here | apply Sel.there)) (fun w _ => srcStr w Try.underlying9 cs) (by omega) (by omega)) (by rfl) (by decide) ?_
  rintro ⟨ad15, cap15⟩ -
  try dsimp only
  refine WL.yld (wanted_plain (by rfl)) (yld_nilCheck (by rfl)) (by rfl) (by decide) ?_
  refine WL.yld (wanted_plain (by rfl)) (yld_fieldAddr (by rfl) (by exact Try.runUnderlying78) (by rfl) (by exact Try.sizeOf31) (by rfl) (by rfl)) (by rfl) (by decide) ?_
  refine WL.eff0 (wanted_plain (by rfl)) (eff_store (by rfl) (by rfl) (by exact Try.sizeOf31) (by rfl) (by rfl) (by rfl) (by repeat (first | exact .here | apply Sel.there)) (by repeat (first | exact SetAts.nil | apply SetAts.cons | exact SetAt.here | apply SetAt.there))) (by rfl) ?_
  rintro _ -
  try dsimp only
  refine WL.done ?_
  refine WK.fall (results0 (by rfl)) (fun w s => ?_)
  refine ⟨(), trivial, rfl, Sat.wrShut ⟨ad15, len + cs.length, cap15⟩ ?_⟩
  dsimp only [wrL, List.cons_append, List.nil_append]
  rw [List.map_append (l₂ := cs)]
  exact s.toCs (by repeat (first | exact SelL.nil | exact SelL.self | apply SelL.cons | exact Sel.here | apply Sel.there | apply SelL.skip))
set_option maxRecDepth 20000 in
set_option maxHeartbeats 1000000 in
theorem wrRaw_spec (q : Nat) (bs cs : List UInt8) (p : Bool) (ad : Option Addr) (len cap : Nat) (hb : bs.length ≤ 500000) (hc : cs.length ≤ 400000) :
    Triple Try.prog 49 #[.pointer (some ⟨q, 0, none⟩), .slice ad len cap] [wrR q bs, sl p 5 1 ad len cap (cs.map bv)] (Unit) (fun _ => True) (fun _ => .tuple #[]) (fun _ => [wrR q (bs ++ uintB cs.length ++ cs), sl p 5 1 ad len cap (cs.map bv)]) := by
  refine Triple.of_body (args := [.pointer (some ⟨q, 0, none⟩), .slice ad len cap]) Try.func49 rfl Try.ntmps49 (by simp) (fun g F => ?_)
  dsimp only [numb, List.cons_append, List.nil_append]
  refine WK.region ?_
  refine WL.yld (wanted_plain (by rfl)) (yld_move (by rfl)) (by rfl) (by decide) ?_
  refine WL.yld (wanted_plain (by rfl)) (yld_move (by rfl)) (by rfl) (by decide) ?_
  refine WL.yld (wanted_plain (by rfl)) (yld_bytesToString (bs := cs) (by rfl) (by exact Try.runUnderlying31) (by exact Try.runUnderlying5) (by exact Try.runUnderlying9) (by repeat (first | exact .here | apply Sel.there))) (by rfl) (by decide) ?_
  refine WL.eff (wanted_plain (by rfl)) (eff_call (by exact Try.call65) (by repeat (first | exact Evs.nil | apply Evs.cons | rfl)) (by repeat (first | exact SelL.nil | exact SelL.self | apply SelL.cons | exact Sel.here | apply Sel.there | apply SelL.skip)) (wrText_spec q bs cs hb hc)) (by rfl) (by decide) ?_
  rintro _ -
  try dsimp only
  refine WL.done ?_
  refine WK.fall (results0 (by rfl)) (fun w s => ?_)
  exact ⟨(), trivial, rfl, s⟩
set_option maxRecDepth 20000 in
set_option maxHeartbeats 1000000 in
theorem wrDone_spec (q : Nat) (bs : List UInt8) (hb : bs.length ≤ 1000000) :
    Triple Try.prog 39 #[.pointer (some ⟨q, 0, none⟩)] [wrR q bs] (Option Addr × Nat × Nat) (fun r => r.2.1 = bs.length) (fun r => .slice r.1 r.2.1 r.2.2) (fun r => [sl true 5 1 r.1 r.2.1 r.2.2 (bs.map bv), wrR q bs]) := by
  refine Triple.wrOpen ?_
  rintro ⟨ad, len, cap⟩
  dsimp only [wrL]
  refine Triple.of_body (args := [.pointer (some ⟨q, 0, none⟩)]) Try.func39 rfl Try.ntmps39 (by simp) (fun g F => ?_)
  dsimp only [numb, List.cons_append, List.nil_append]
  refine WK.know (fun w s => Sat.slLen (s.sel1 (A := sl true 5 1 ad len cap (bs.map bv)) (by repeat (first | exact .here | apply Sel.there)))) (fun hkn => ?_)
  obtain ⟨n1, -⟩ := hkn
  simp only [Nat.mul_one, List.length_map] at n1
  refine WK.seq ?_
  refine WK.region ?_
  refine WL.yld (wanted_plain (by rfl)) (yld_assign (by rfl)) (by rfl) (by decide) ?_
  refine WL.done ?_
  refine WK.seq ?_
  refine WK.region ?_
  refine WL.yld (wanted_plain (by rfl)) (yld_move (by rfl)) (by rfl) (by decide) ?_
  refine WL.yld (wanted_plain (by rfl)) (yld_nilCheck (by rfl)) (by rfl) (by decide) ?_
  refine WL.yld (wanted_plain (by rfl)) (yld_fieldAddr (by rfl) (by exact Try.runUnderlying78) (by rfl) (by exact Try.sizeOf31) (by rfl) (by rfl)) (by rfl) (by decide) ?_
  refine WL.yld (wanted_plain (by rfl)) (yld_load (by rfl) (by exact Try.isAgg31) (by repeat (first | exact .here | apply Sel.there)) (by rfl)) (by rfl) (by decide) ?_
  refine WL.eff (wanted_plain (by rfl)) (eff_call (by exact Try.call42) (by repeat (first | exact Evs.nil | apply Evs.cons | rfl)) (by repeat (first | exact SelL.nil | exact SelL.self | apply SelL.cons | exact Sel.here | apply Sel.there | apply SelL.skip)) (clone_spec true ad len cap (bs.map bv) (by omega))) (by rfl) (by decide) ?_
  rintro ⟨ad7, len7, cap7⟩ hl7
  try dsimp only
  refine WL.yld (wanted_plain (by rfl)) (yld_assign (by rfl)) (by rfl) (by decide) ?_
  refine WL.done ?_
  refine WK.ret ?_
  repeat (first | refine RQ.block ?_ | refine RQ.then_ ?_)
  refine RQ.body (results1 (by rfl) (by rfl)) (fun w s => ?_)
  dsimp only at hl7
  refine ⟨(ad7, len7, cap7), by dsimp only; omega, rfl, ?_⟩
  exact (Sat.wrShut ⟨ad, len, cap⟩ (s.sel (As := wrL q bs ⟨ad, len, cap⟩) (by dsimp only [wrL]; exact (by repeat (first | exact SelL.nil | exact SelL.self | apply SelL.cons | exact Sel.here | apply Sel.there | apply SelL.skip))))).toCs (by repeat (first | exact SelL.nil | exact SelL.self | apply SelL.cons | exact Sel.here | apply Sel.there | apply SelL.skip))
set_option maxRecDepth 20000 in
set_option maxHeartbeats 1000000 in
theorem unzigzag_spec (z : Nat) (hz : z < 18446744073709551616) :
    Triple Try.prog 69 #[.int .u64 (z : Int)] [] (Unit) (fun _ => True) (fun _ => .int .i64 (unzig z)) (fun _ => []) := by
  refine Triple.of_body (args := [.int .u64 (z : Int)]) Try.func69 rfl Try.ntmps69 (by simp) (fun g F => ?_)
  dsimp only [numb, List.cons_append, List.nil_append]
  refine WK.seq ?_
  refine WK.region ?_
  refine WL.yld (wanted_plain (by rfl)) (yld_assign (by rfl)) (by rfl) (by decide) ?_
  refine WL.done ?_
  refine WK.seq ?_
  refine WK.region ?_
  refine WL.yld (wanted_plain (by rfl)) (yld_move (by rfl)) (by rfl) (by decide) ?_
  refine WL.yld (wanted_plain (by rfl)) (yld_shr (by rfl) (by rfl) (by omega) (by rfl)) (by rfl) (by decide) ?_
  refine WL.yld (wanted_plain (by rfl)) (yld_convInt (by rfl) (by exact Try.runUnderlying75) (by exact Try.runUnderlying3) (by rfl)) (by rfl) (by decide) ?_
  refine WL.yld (wanted_plain (by rfl)) (yld_move (by rfl)) (by rfl) (by decide) ?_
  refine WL.yld (wanted_plain (by rfl)) (yld_and (by rfl) (by rfl) (by rfl)) (by rfl) (by decide) ?_
  refine WL.yld (wanted_plain (by rfl)) (yld_convInt (by rfl) (by exact Try.runUnderlying75) (by exact Try.runUnderlying3) (by rfl)) (by rfl) (by decide) ?_
  refine WL.yld (wanted_plain (by rfl)) (yld_neg (by rfl) (by rfl)) (by rfl) (by decide) ?_
  refine WL.yld (wanted_plain (by rfl)) (yld_xor (by rfl) (by rfl) (by exact unzig_bits z hz)) (by rfl) (by decide) ?_
  refine WL.yld (wanted_plain (by rfl)) (yld_assign (by rfl)) (by rfl) (by decide) ?_
  refine WL.done ?_
  refine WK.ret ?_
  repeat (first | refine RQ.block ?_ | refine RQ.then_ ?_)
  refine RQ.body (results1 (by rfl) (by rfl)) (fun w s => ?_)
  exact ⟨(), trivial, rfl, s⟩
set_option maxRecDepth 20000 in
set_option maxHeartbeats 1000000 in
theorem rdFail_spec (q : Nat) (bs : List UInt8) (e c : Int) :
    Triple Try.prog 61 #[.pointer (some ⟨q, 0, none⟩), .int .i64 c] [rdR q bs e] (Unit) (fun _ => True) (fun _ => .tuple #[]) (fun _ => [rdR q bs (failE e c)]) := by
  refine Triple.rdOpen ?_
  rintro ⟨ad, len, cap⟩
  dsimp only [rdL]
  refine Triple.of_body (args := [.pointer (some ⟨q, 0, none⟩), .int .i64 c]) Try.func61 rfl Try.ntmps61 (by simp) (fun g F => ?_)
  dsimp only [numb, List.cons_append, List.nil_append]
  refine WK.seq ?_
  refine WK.region ?_
  refine WL.yld (wanted_plain (by rfl)) (yld_move (by rfl)) (by rfl) (by decide) ?_
  refine WL.yld (wanted_plain (by rfl)) (yld_nilCheck (by rfl)) (by rfl) (by decide) ?_
  refine WL.yld (wanted_plain (by rfl)) (yld_fieldAddr (by rfl) (by exact Try.runUnderlying101) (by rfl) (by exact Try.sizeOf32) (by rfl) (by rfl)) (by rfl) (by decide) ?_
  refine WL.yld (wanted_plain (by rfl)) (yld_load (by rfl) (by exact Try.isAgg32) (by repeat (first | exact .here | apply Sel.there)) (by rfl)) (by rfl) (by decide) ?_
  refine WL.yld (wanted_plain (by rfl)) (yld_eql (by rfl) (by rfl)) (by rfl) (by decide) ?_
  refine WL.done ?_
  refine WK.cond (by rfl) (fun hc8 => ?_) (fun hc8 => ?_)
  · skip
    have hc8 := of_decide_eq_true hc8
    refine WK.region ?_
    refine WL.yld (wanted_plain (by rfl)) (yld_move (by rfl)) (by rfl) (by decide) ?_
    refine WL.yld (wanted_plain (by rfl)) (yld_move (by rfl)) (by rfl) (by decide) ?_
    refine WL.yld (wanted_plain (by rfl)) (yld_nilCheck (by rfl)) (by rfl) (by decide) ?_
    refine WL.yld (wanted_plain (by rfl)) (yld_fieldAddr (by rfl) (by exact Try.runUnderlying101) (by rfl) (by exact Try.sizeOf32) (by rfl) (by rfl)) (by rfl) (by decide) ?_
    refine WL.eff0 (wanted_plain (by rfl)) (eff_store (by rfl) (by rfl) (by exact Try.sizeOf32) (by rfl) (by rfl) (by rfl) (by repeat (first | exact .here | apply Sel.there)) (by repeat (first | exact SetAts.nil | apply SetAts.cons | exact SetAt.here | apply SetAt.there))) (by rfl) ?_
    rintro _ -
    try dsimp only
    refine WL.done ?_
    refine WK.fall (results0 (by rfl)) (fun w s => ?_)
    refine ⟨(), trivial, rfl, ?_⟩
    rw [show failE e c = c from if_pos hc8]
    exact Sat.rdShut ⟨ad, len, cap⟩ (s.sel (As := rdL q bs c ⟨ad, len, cap⟩) (by dsimp only [rdL]; exact (by repeat (first | exact SelL.nil | exact SelL.self | apply SelL.cons | exact Sel.here | apply Sel.there | apply SelL.skip))))
  · skip
    have hc8 := of_decide_eq_false hc8
    refine WK.skip ?_
    refine WK.fall (results0 (by rfl)) (fun w s => ?_)
    refine ⟨(), trivial, rfl, ?_⟩
    rw [show failE e c = e from if_neg hc8]
    exact Sat.rdShut ⟨ad, len, cap⟩ (s.sel (As := rdL q bs e ⟨ad, len, cap⟩) (by dsimp only [rdL]; exact (by repeat (first | exact SelL.nil | exact SelL.self | apply SelL.cons | exact Sel.here | apply Sel.there | apply SelL.skip))))
set_option maxRecDepth 20000 in
set_option maxHeartbeats 1000000 in
theorem read_spec (p : Bool) (ad : Option Addr) (len cap : Nat) (bs : List UInt8) (hl : len ≤ 140737488355328) :
    Triple Try.prog 35 #[.slice ad len cap] [sl p 5 1 ad len cap (bs.map bv)] (Nat) (fun _ => True) (fun q => .pointer (some ⟨q, 0, none⟩)) (fun q => [rdR q bs 0, sl p 5 1 ad len cap (bs.map bv)]) := by
  refine Triple.of_body (args := [.slice ad len cap]) Try.func35 rfl Try.ntmps35 (by simp) (fun g F => ?_)
  dsimp only [numb, List.cons_append, List.nil_append]
  refine WK.seq ?_
  refine WK.region ?_
  refine WL.yld (wanted_plain (by rfl)) (yld_assign (by rfl)) (by rfl) (by decide) ?_
  refine WL.done ?_
  refine WK.seq ?_
  refine WK.region ?_
  refine WL.yld (wanted_plain (by rfl)) (yld_move (by rfl)) (by rfl) (by decide) ?_
  refine WL.eff (wanted_plain (by rfl)) (eff_call (by exact Try.call42) (by repeat (first | exact Evs.nil | apply Evs.cons | rfl)) (by repeat (first | exact SelL.nil | exact SelL.self | apply SelL.cons | exact Sel.here | apply Sel.there | apply SelL.skip)) (clone_spec p ad len cap (bs.map bv) hl)) (by rfl) (by decide) ?_
  rintro ⟨ad7, len7, cap7⟩ hl7
  try dsimp only
  refine WL.yld (wanted_plain (by rfl)) (yld_build (by repeat (first | exact Prts.nil | apply Prts.cons | rfl)) (by exact Try.zeroValue101) (by exact Try.runUnderlying101) (by exact fun w => places101 w Try.underlying101) (by first | decide | simp) (by repeat (first | exact Fill.nil | apply Fill.cons | exact SetAts.nil | apply SetAts.cons | exact SetAt.here | apply SetAt.there | rfl))) (by rfl) (by decide) ?_
  refine WL.eff (wanted_plain (by rfl)) (eff_box (by rfl) (by rfl)) (by rfl) (by decide) ?_
  rintro b6 -
  try dsimp only
  refine WL.yld (wanted_plain (by rfl)) (yld_assign (by rfl)) (by rfl) (by decide) ?_
  refine WL.done ?_
  refine WK.ret ?_
  repeat (first | refine RQ.block ?_ | refine RQ.then_ ?_)
  refine RQ.body (results1 (by rfl) (by rfl)) (fun w s => ?_)
  refine ⟨b6, trivial, rfl, ?_⟩
  exact Sat.rdShut ⟨ad7, len7, cap7⟩ (s.toCs (by dsimp only [rdL, List.cons_append, List.nil_append]; exact (by repeat (first | exact SelL.nil | exact SelL.self | apply SelL.cons | exact Sel.here | apply Sel.there | apply SelL.skip))))
set_option maxRecDepth 20000 in
set_option maxHeartbeats 1000000 in
theorem rdEnd_spec (q : Nat) (bs : List UInt8) (e : Int) :
    Triple Try.prog 40 #[.pointer (some ⟨q, 0, none⟩)] [rdR q bs e] (Unit) (fun _ => True) (fun _ => .int .i64 (if e = 0 ∧ bs ≠ [] then 2 else e)) (fun _ => [rdR q bs e]) := by
  refine Triple.rdOpen ?_
  rintro ⟨ad, len, cap⟩
  dsimp only [rdL]
  refine Triple.of_body (args := [.pointer (some ⟨q, 0, none⟩)]) Try.func40 rfl Try.ntmps40 (by simp) (fun g F => ?_)
  dsimp only [numb, List.cons_append, List.nil_append]
  refine WK.know (fun w s => Sat.slLen (s.sel1 (A := sl true 5 1 ad len cap (bs.map bv)) (by repeat (first | exact .here | apply Sel.there)))) (fun hkn => ?_)
  obtain ⟨n1, -⟩ := hkn
  simp only [Nat.mul_one, List.length_map] at n1
  refine WK.seq ?_
  refine WK.region ?_
  refine WL.yld (wanted_plain (by rfl)) (yld_assign (by rfl)) (by rfl) (by decide) ?_
  refine WL.done ?_
  refine WK.seq ?_
  refine WK.seq ?_
  refine WK.region ?_
  refine WL.yld (wanted_plain (by rfl)) (yld_move (by rfl)) (by rfl) (by decide) ?_
  refine WL.yld (wanted_plain (by rfl)) (yld_nilCheck (by rfl)) (by rfl) (by decide) ?_
  refine WL.yld (wanted_plain (by rfl)) (yld_fieldAddr (by rfl) (by exact Try.runUnderlying101) (by rfl) (by exact Try.sizeOf32) (by rfl) (by rfl)) (by rfl) (by decide) ?_
  refine WL.yld (wanted_plain (by rfl)) (yld_load (by rfl) (by exact Try.isAgg32) (by repeat (first | exact .here | apply Sel.there)) (by rfl)) (by rfl) (by decide) ?_
  refine WL.yld (wanted_plain (by rfl)) (yld_eql (by rfl) (by rfl)) (by rfl) (by decide) ?_
  refine WL.yld (wanted_plain (by rfl)) (yld_move (by rfl)) (by rfl) (by decide) ?_
  refine WL.split (d := 8) (by rfl) (fun hc8 => ?_) (fun hc8 => ?_)
  · skip
    have hc8 := of_decide_eq_true hc8
    refine WL.yld (wanted_some (by rfl) (by rfl) (by rfl)) (yld_move (by rfl)) (by rfl) (by decide) ?_
    refine WL.yld (wanted_some (by rfl) (by rfl) (by rfl)) (yld_nilCheck (by rfl)) (by rfl) (by decide) ?_
    refine WL.yld (wanted_some (by rfl) (by rfl) (by rfl)) (yld_fieldAddr (by rfl) (by exact Try.runUnderlying101) (by rfl) (by exact Try.sizeOf31) (by rfl) (by rfl)) (by rfl) (by decide) ?_
    refine WL.yld (wanted_some (by rfl) (by rfl) (by rfl)) (yld_load (by rfl) (by exact Try.isAgg31) (by repeat (first | exact .here | apply Sel.there)) (by rfl)) (by rfl) (by decide) ?_
    refine WL.yld (wanted_some (by rfl) (by rfl) (by rfl)) (yld_len (by rfl) (by exact Try.runUnderlying31)) (by rfl) (by decide) ?_
    refine WL.yld (wanted_some (by rfl) (by rfl) (by rfl)) (yld_gtr (by rfl) (by rfl)) (by rfl) (by decide) ?_
    refine WL.yld (wanted_plain (by rfl)) (yld_pick_true (by rfl) (by rfl)) (by rfl) (by decide) ?_
    refine WL.done ?_
    refine WK.cond (by rfl) (fun hc15 => ?_) (fun hc15 => ?_)
    · skip
      have hc15 := of_decide_eq_true hc15
      refine WK.seq ?_
      refine WK.region ?_
      refine WL.yld (wanted_plain (by rfl)) (yld_assign (by rfl)) (by rfl) (by decide) ?_
      refine WL.done ?_
      refine WK.ret ?_
      repeat (first | refine RQ.block ?_ | refine RQ.then_ ?_)
      refine RQ.body (results1 (by rfl) (by rfl)) (fun w s => ?_)
      refine ⟨(), trivial, ?_, Sat.rdShut ⟨ad, len, cap⟩ (s.sel (As := rdL q bs e ⟨ad, len, cap⟩) (by dsimp only [rdL]; exact (by repeat (first | exact SelL.nil | exact SelL.self | apply SelL.cons | exact Sel.here | apply Sel.there | apply SelL.skip))))⟩
      rw [if_pos ⟨hc8, by rintro rfl; simp at n1; omega⟩]
    · skip
      have hc15 := of_decide_eq_false hc15
      refine WK.skip ?_
      refine WK.seq ?_
      refine WK.region ?_
      refine WL.yld (wanted_plain (by rfl)) (yld_move (by rfl)) (by rfl) (by decide) ?_
      refine WL.yld (wanted_plain (by rfl)) (yld_nilCheck (by rfl)) (by rfl) (by decide) ?_
      refine WL.yld (wanted_plain (by rfl)) (yld_fieldAddr (by rfl) (by exact Try.runUnderlying101) (by rfl) (by exact Try.sizeOf32) (by rfl) (by rfl)) (by rfl) (by decide) ?_
      refine WL.yld (wanted_plain (by rfl)) (yld_load (by rfl) (by exact Try.isAgg32) (by repeat (first | exact .here | apply Sel.there)) (by rfl)) (by rfl) (by decide) ?_
      refine WL.yld (wanted_plain (by rfl)) (yld_assign (by rfl)) (by rfl) (by decide) ?_
      refine WL.done ?_
      refine WK.ret ?_
      repeat (first | refine RQ.block ?_ | refine RQ.then_ ?_)
      refine RQ.body (results1 (by rfl) (by rfl)) (fun w s => ?_)
      refine ⟨(), trivial, ?_, Sat.rdShut ⟨ad, len, cap⟩ (s.sel (As := rdL q bs e ⟨ad, len, cap⟩) (by dsimp only [rdL]; exact (by repeat (first | exact SelL.nil | exact SelL.self | apply SelL.cons | exact Sel.here | apply Sel.there | apply SelL.skip))))⟩
      rw [if_neg (fun h => h.2 (List.eq_nil_of_length_eq_zero (by omega)))]
  · skip
    have hc8 := of_decide_eq_false hc8
    refine WL.skip (unwanted_some (by rfl) (by rfl) (by rfl) (by rfl)) (by rfl) (by decide) ?_
    refine WL.skip (unwanted_some (by rfl) (by rfl) (by rfl) (by rfl)) (by rfl) (by decide) ?_
    refine WL.skip (unwanted_some (by rfl) (by rfl) (by rfl) (by rfl)) (by rfl) (by decide) ?_
    refine WL.skip (unwanted_some (by rfl) (by rfl) (by rfl) (by rfl)) (by rfl) (by decide) ?_
    refine WL.skip (unwanted_some (by rfl) (by rfl) (by rfl) (by rfl)) (by rfl) (by decide) ?_
    refine WL.skip (unwanted_some (by rfl) (by rfl) (by rfl) (by rfl)) (by rfl) (by decide) ?_
    refine WL.yld (wanted_plain (by rfl)) (yld_pick_false (by rfl) (by rfl)) (by rfl) (by decide) ?_
    refine WL.done ?_
    refine WK.cond (by rfl) (fun h => by cases h) (fun _ => ?_)
    refine WK.skip ?_
    refine WK.seq ?_
    refine WK.region ?_
    refine WL.yld (wanted_plain (by rfl)) (yld_move (by rfl)) (by rfl) (by decide) ?_
    refine WL.yld (wanted_plain (by rfl)) (yld_nilCheck (by rfl)) (by rfl) (by decide) ?_
    refine WL.yld (wanted_plain (by rfl)) (yld_fieldAddr (by rfl) (by exact Try.runUnderlying101) (by rfl) (by exact Try.sizeOf32) (by rfl) (by rfl)) (by rfl) (by decide) ?_
    refine WL.yld (wanted_plain (by rfl)) (yld_load (by rfl) (by exact Try.isAgg32) (by repeat (first | exact .here | apply Sel.there)) (by rfl)) (by rfl) (by decide) ?_
    refine WL.yld (wanted_plain (by rfl)) (yld_assign (by rfl)) (by rfl) (by decide) ?_
    refine WL.done ?_
    refine WK.ret ?_
    repeat (first | refine RQ.block ?_ | refine RQ.then_ ?_)
    refine RQ.body (results1 (by rfl) (by rfl)) (fun w s => ?_)
    refine ⟨(), trivial, ?_, Sat.rdShut ⟨ad, len, cap⟩ (s.sel (As := rdL q bs e ⟨ad, len, cap⟩) (by dsimp only [rdL]; exact (by repeat (first | exact SelL.nil | exact SelL.self | apply SelL.cons | exact Sel.here | apply Sel.there | apply SelL.skip))))⟩
    rw [if_neg (fun h => hc8 h.1)]
set_option maxRecDepth 20000 in
set_option maxHeartbeats 1000000 in
theorem rdNext_spec (q : Nat) (bs : List UInt8) (e : Int) :
    Triple Try.prog 60 #[.pointer (some ⟨q, 0, none⟩)] [rdR q bs e] (Unit) (fun _ => True) (fun _ => .int .u8 ((nextM bs e).1.toNat : Int)) (fun _ => [rdR q (nextM bs e).2.1 (nextM bs e).2.2]) := by
  refine Triple.rdOpen ?_
  rintro ⟨ad, len, cap⟩
  dsimp only [rdL]
  refine Triple.of_body (args := [.pointer (some ⟨q, 0, none⟩)]) Try.func60 rfl Try.ntmps60 (by simp) (fun g F => ?_)
  dsimp only [numb, List.cons_append, List.nil_append]
  refine WK.know (fun w s => Sat.slLen (s.sel1 (A := sl true 5 1 ad len cap (bs.map bv)) (by repeat (first | exact .here | apply Sel.there)))) (fun hkn => ?_)
  obtain ⟨n1, -⟩ := hkn
  simp only [Nat.mul_one, List.length_map] at n1
  refine WK.seq ?_
  refine WK.region ?_
  refine WL.yld (wanted_plain (by rfl)) (yld_assign (by rfl)) (by rfl) (by decide) ?_
  refine WL.done ?_
  refine WK.seq ?_
  refine WK.seq ?_
  refine WK.region ?_
  refine WL.yld (wanted_plain (by rfl)) (yld_move (by rfl)) (by rfl) (by decide) ?_
  refine WL.yld (wanted_plain (by rfl)) (yld_nilCheck (by rfl)) (by rfl) (by decide) ?_
  refine WL.yld (wanted_plain (by rfl)) (yld_fieldAddr (by rfl) (by exact Try.runUnderlying101) (by rfl) (by exact Try.sizeOf31) (by rfl) (by rfl)) (by rfl) (by decide) ?_
  refine WL.yld (wanted_plain (by rfl)) (yld_load (by rfl) (by exact Try.isAgg31) (by repeat (first | exact .here | apply Sel.there)) (by rfl)) (by rfl) (by decide) ?_
  refine WL.yld (wanted_plain (by rfl)) (yld_len (by rfl) (by exact Try.runUnderlying31)) (by rfl) (by decide) ?_
  refine WL.yld (wanted_plain (by rfl)) (yld_eql (by rfl) (by rfl)) (by rfl) (by decide) ?_
  refine WL.done ?_
  refine WK.cond (by rfl) (fun hc9 => ?_) (fun hc9 => ?_)
  · skip
    have hc9 := of_decide_eq_true hc9
    obtain rfl : bs = [] := List.eq_nil_of_length_eq_zero (by omega)
    refine WK.sat (fun w s => Sat.rdShut (bs := []) ⟨ad, len, cap⟩ (s.sel (As := rdL q [] e ⟨ad, len, cap⟩) (by dsimp only [rdL]; exact (by repeat (first | exact SelL.nil | exact SelL.self | apply SelL.cons | exact Sel.here | apply Sel.there | apply SelL.skip))))) ?_
    refine WK.region ?_
    refine WL.yld (wanted_plain (by rfl)) (yld_move (by rfl)) (by rfl) (by decide) ?_
    refine WL.eff (wanted_plain (by rfl)) (eff_call (by exact Try.call61) (by repeat (first | exact Evs.nil | apply Evs.cons | rfl)) (by repeat (first | exact SelL.nil | exact SelL.self | apply SelL.cons | exact Sel.here | apply Sel.there | apply SelL.skip)) (rdFail_spec q [] e 3)) (by rfl) (by decide) ?_
    rintro _ -
    try dsimp only
    refine WL.done ?_
    refine WK.openS (fun w s => Sat.rdOpen (s.sel1 (A := rdR q [] (failE e 3)) (by repeat (first | exact .here | apply Sel.there)))) ?_
    rintro ⟨ad, len, cap⟩ -
    dsimp only [rdL, List.cons_append, List.nil_append]
    have hne : failE e 3 ≠ 0 := by unfold failE; split <;> omega
    refine WK.seq ?_
    refine WK.seq ?_
    refine WK.region ?_
    refine WL.yld (wanted_plain (by rfl)) (yld_move (by rfl)) (by rfl) (by decide) ?_
    refine WL.yld (wanted_plain (by rfl)) (yld_nilCheck (by rfl)) (by rfl) (by decide) ?_
    refine WL.yld (wanted_plain (by rfl)) (yld_fieldAddr (by rfl) (by exact Try.runUnderlying101) (by rfl) (by exact Try.sizeOf32) (by rfl) (by rfl)) (by rfl) (by decide) ?_
    refine WL.yld (wanted_plain (by rfl)) (yld_load (by rfl) (by exact Try.isAgg32) (by repeat (first | exact .here | apply Sel.there)) (by rfl)) (by rfl) (by decide) ?_
    refine WL.yld (wanted_plain (by rfl)) (yld_neq (by rfl) (by rfl)) (by rfl) (by decide) ?_
    refine WL.done ?_
    refine WK.cond (by rfl) (fun hc16 => ?_) (fun hc16 => ?_)
    · skip
      have hc16 := of_decide_eq_true hc16
      refine WK.seq ?_
      refine WK.region ?_
      refine WL.yld (wanted_plain (by rfl)) (yld_assign (by rfl)) (by rfl) (by decide) ?_
      refine WL.done ?_
      refine WK.ret ?_
      repeat (first | refine RQ.block ?_ | refine RQ.then_ ?_)
      refine RQ.body (results1 (by rfl) (by rfl)) (fun w s => ?_)
      refine ⟨(), trivial, rfl, ?_⟩
      exact Sat.rdShut ⟨ad, len, cap⟩ (s.sel (As := rdL q [] (failE e 3) ⟨ad, len, cap⟩) (by dsimp only [rdL]; exact (by repeat (first | exact SelL.nil | exact SelL.self | apply SelL.cons | exact Sel.here | apply Sel.there | apply SelL.skip))))
    · skip
      have hc16 := of_decide_eq_false hc16
      exact (hne (by omega)).elim
  · skip
    have hc9 := of_decide_eq_false hc9
    obtain ⟨b, tl, rfl⟩ : ∃ b tl, bs = b :: tl := by
      cases bs with
      | nil => simp at n1; omega
      | cons b tl => exact ⟨b, tl, rfl⟩
    refine WK.skip ?_
    refine WK.seq ?_
    refine WK.seq ?_
    refine WK.region ?_
    refine WL.yld (wanted_plain (by rfl)) (yld_move (by rfl)) (by rfl) (by decide) ?_
    refine WL.yld (wanted_plain (by rfl)) (yld_nilCheck (by rfl)) (by rfl) (by decide) ?_
    refine WL.yld (wanted_plain (by rfl)) (yld_fieldAddr (by rfl) (by exact Try.runUnderlying101) (by rfl) (by exact Try.sizeOf32) (by rfl) (by rfl)) (by rfl) (by decide) ?_
    refine WL.yld (wanted_plain (by rfl)) (yld_load (by rfl) (by exact Try.isAgg32) (by repeat (first | exact .here | apply Sel.there)) (by rfl)) (by rfl) (by decide) ?_
    refine WL.yld (wanted_plain (by rfl)) (yld_neq (by rfl) (by rfl)) (by rfl) (by decide) ?_
    refine WL.done ?_
    refine WK.cond (by rfl) (fun hc16 => ?_) (fun hc16 => ?_)
    · skip
      have hc16 := of_decide_eq_true hc16
      refine WK.seq ?_
      refine WK.region ?_
      refine WL.yld (wanted_plain (by rfl)) (yld_assign (by rfl)) (by rfl) (by decide) ?_
      refine WL.done ?_
      refine WK.ret ?_
      repeat (first | refine RQ.block ?_ | refine RQ.then_ ?_)
      refine RQ.body (results1 (by rfl) (by rfl)) (fun w s => ?_)
      have hm : nextM (b :: tl) e = (0, b :: tl, e) := by unfold nextM; exact if_neg hc16
      refine ⟨(), trivial, by rw [hm]; rfl, ?_⟩
      rw [hm]
      exact Sat.rdShut ⟨ad, len, cap⟩ (s.sel (As := rdL q (b :: tl) e ⟨ad, len, cap⟩) (by dsimp only [rdL]; exact (by repeat (first | exact SelL.nil | exact SelL.self | apply SelL.cons | exact Sel.here | apply Sel.there | apply SelL.skip))))
    · skip
      have hc16 := of_decide_eq_false hc16
      refine WK.skip ?_
      refine WK.seq ?_
      refine WK.region ?_
      refine WL.yld (wanted_plain (by rfl)) (yld_move (by rfl)) (by rfl) (by decide) ?_
      refine WL.yld (wanted_plain (by rfl)) (yld_nilCheck (by rfl)) (by rfl) (by decide) ?_
      refine WL.yld (wanted_plain (by rfl)) (yld_fieldAddr (by rfl) (by exact Try.runUnderlying101) (by rfl) (by exact Try.sizeOf31) (by rfl) (by rfl)) (by rfl) (by decide) ?_
      refine WL.yld (wanted_plain (by rfl)) (yld_load (by rfl) (by exact Try.isAgg31) (by repeat (first | exact .here | apply Sel.there)) (by rfl)) (by rfl) (by decide) ?_
      refine WL.yld (wanted_plain (by rfl)) (yld_indexAddrS (by rfl) (by rfl) (by exact Try.runUnderlying31) (by exact Try.sizeOf5) (by repeat (first | exact .here | apply Sel.there)) (0) (by first | rfl | omega) (by omega) (by omega) (by exact Nat.mul_one _)) (by rfl) (by decide) ?_
      refine WL.yld (wanted_plain (by rfl)) (yld_loadS (by rfl) (by exact Try.isAgg5) (by repeat (first | exact .here | apply Sel.there)) (by rfl)) (by rfl) (by decide) ?_
      refine WL.yld (wanted_plain (by rfl)) (yld_assign (by rfl)) (by rfl) (by decide) ?_
      refine WL.done ?_
      refine WK.seq ?_
      refine WK.region ?_
      refine WL.yld (wanted_plain (by rfl)) (yld_move (by rfl)) (by rfl) (by decide) ?_
      refine WL.yld (wanted_plain (by rfl)) (yld_move (by rfl)) (by rfl) (by decide) ?_
      refine WL.yld (wanted_plain (by rfl)) (yld_nilCheck (by rfl)) (by rfl) (by decide) ?_
      refine WL.yld (wanted_plain (by rfl)) (yld_fieldAddr (by rfl) (by exact Try.runUnderlying101) (by rfl) (by exact Try.sizeOf31) (by rfl) (by rfl)) (by rfl) (by decide) ?_
      refine WL.yld (wanted_plain (by rfl)) (yld_load (by rfl) (by exact Try.isAgg31) (by repeat (first | exact .here | apply Sel.there)) (by rfl)) (by rfl) (by decide) ?_
      refine WL.yld (wanted_plain (by rfl)) (yld_slice_lo (by rfl) (by rfl) (by exact Try.runUnderlying31) (by exact Try.sizeOf5) 1 (by rfl) (by omega)) (by rfl) (by decide) ?_
      refine WL.yld (wanted_plain (by rfl)) (yld_nilCheck (by rfl)) (by rfl) (by decide) ?_
      refine WL.yld (wanted_plain (by rfl)) (yld_fieldAddr (by rfl) (by exact Try.runUnderlying101) (by rfl) (by exact Try.sizeOf31) (by rfl) (by rfl)) (by rfl) (by decide) ?_
      refine WL.eff0 (wanted_plain (by rfl)) (eff_store (by rfl) (by rfl) (by exact Try.sizeOf31) (by rfl) (by rfl) (by rfl) (by repeat (first | exact .here | apply Sel.there)) (by repeat (first | exact SetAts.nil | apply SetAts.cons | exact SetAt.here | apply SetAt.there))) (by rfl) ?_
      rintro _ -
      try dsimp only
      refine WL.done ?_
      refine WK.seq ?_
      refine WK.region ?_
      refine WL.yld (wanted_plain (by rfl)) (yld_move (by rfl)) (by rfl) (by decide) ?_
      refine WL.yld (wanted_plain (by rfl)) (yld_assign (by rfl)) (by rfl) (by decide) ?_
      refine WL.done ?_
      refine WK.ret ?_
      repeat (first | refine RQ.block ?_ | refine RQ.then_ ?_)
      refine RQ.body (results1 (by rfl) (by rfl)) (fun w s => ?_)
      obtain rfl : e = 0 := by omega
      have hm : nextM (b :: tl) 0 = (b, tl, 0) := by unfold nextM; exact if_pos rfl
      refine ⟨(), trivial, by rw [hm]; rfl, ?_⟩
      rw [hm]
      have s1 := (s.sel1 (A := sl true 5 1 ad len cap ((b :: tl).map bv)) (by repeat (first | exact .here | apply Sel.there))).slTail 1 (by omega)
      exact Sat.rdShut ⟨cutA ad cap 1 1, len - 1, cap - 1⟩ (s1.sel (As := rdL q tl 0 ⟨cutA ad cap 1 1, len - 1, cap - 1⟩) (by dsimp only [rdL]; exact (by repeat (first | exact SelL.nil | exact SelL.self | apply SelL.cons | exact Sel.here | apply Sel.there | apply SelL.skip))))
set_option maxRecDepth 20000 in
set_option maxHeartbeats 2000000 in
theorem rdUint_spec (q : Nat) (bs : List UInt8) (e : Int) :
    Triple Try.prog 37 #[.pointer (some ⟨q, 0, none⟩)] [rdR q bs e] (List UInt8 × Int) (fun x => match uintE bs e with | some r => x = (r.2, 0) | none => x.2 ≠ 0) (fun _ => .int .u64 ((((uintE bs e).map Prod.fst).getD 0 : Nat) : Int)) (fun x => [rdR q x.1 x.2]) := by
  refine Triple.of_body (args := [.pointer (some ⟨q, 0, none⟩)]) Try.func37 rfl Try.ntmps37 (by simp) (fun g F => ?_)
  dsimp only [numb, List.cons_append, List.nil_append]
  refine WK.seq ?_
  refine WK.region ?_
  refine WL.yld (wanted_plain (by rfl)) (yld_assign (by rfl)) (by rfl) (by decide) ?_
  refine WL.done ?_
  refine WK.seq ?_
  refine WK.region ?_
  refine WL.yld (wanted_plain (by rfl)) (yld_assign (by rfl)) (by rfl) (by decide) ?_
  refine WL.done ?_
  refine WK.seq ?_
  refine WK.seq ?_
  refine WK.region ?_
  refine WL.yld (wanted_plain (by rfl)) (yld_assign (by rfl)) (by rfl) (by decide) ?_
  refine WL.done ?_
  refine WK.block ?_
  refine WK.loop (ι := Nat × Int × List UInt8 × Int) (fun p => p.1 ≤ 10 ∧ ((p.2.2.2 = 0 ∧ uintE bs e = uintR p.1 p.2.1.toNat p.2.2.1 ∧ p.1 ≤ 9 ∧ ∃ n : Nat, p.2.1 = n ∧ n < 2 ^ (7 * p.1)) ∨ (p.2.2.2 ≠ 0 ∧ uintE bs e = none))) (fun p => [(0, .pointer (some ⟨q, 0, none⟩)), (3, .int .u64 p.2.1), (4, .int .i64 (p.1 : Int))]) (fun p => rdR q p.2.2.1 p.2.2.2 :: F) (fun p => if p.2.2.2 = 0 then p.2.2.1.length + 1 else 0) ((0, 0, bs, e)) (⟨Nat.zero_le _, by
  by_cases h : e = 0
  · exact .inl ⟨h, by subst h; rfl, Nat.zero_le _, 0, rfl, Nat.one_pos⟩
  · exact .inr ⟨h, if_neg h⟩⟩) (by repeat (first | exact KK.nil | refine KK.cons (by first | rfl | (simp; done)) ?_)) (by repeat (first | exact SelL.nil | exact SelL.self | apply SelL.cons | exact Sel.here | apply Sel.there | apply SelL.skip)) ?_
  rintro ⟨i, nI, cs, e'⟩ ⟨hi, hst⟩ N hN
  dsimp only at hi hst ⊢
  refine WK.seq ?_
  refine WK.seq ?_
  refine WK.openS (fun w s => Sat.rdOpen (s.sel1 (A := rdR q cs e') (by repeat (first | exact .here | apply Sel.there)))) ?_
  rintro ⟨ad, len, cap⟩ -
  dsimp only [rdL, List.cons_append, List.nil_append]
  refine WK.region ?_
  refine WL.yld (wanted_plain (by rfl)) (yld_move (by rfl)) (by rfl) (by decide) ?_
  refine WL.yld (wanted_plain (by rfl)) (yld_nilCheck (by rfl)) (by rfl) (by decide) ?_
  refine WL.yld (wanted_plain (by rfl)) (yld_fieldAddr (by rfl) (by exact Try.runUnderlying101) (by rfl) (by exact Try.sizeOf32) (by rfl) (by rfl)) (by rfl) (by decide) ?_
  refine WL.yld (wanted_plain (by rfl)) (yld_load (by rfl) (by exact Try.isAgg32) (by repeat (first | exact .here | apply Sel.there)) (by rfl)) (by rfl) (by decide) ?_
  refine WL.yld (wanted_plain (by rfl)) (yld_eql (by rfl) (by rfl)) (by rfl) (by decide) ?_
  refine WL.done ?_
  refine WK.cond (by rfl) (fun hc10 => ?_) (fun hc10 => ?_)
  · skip
    have hc10 := of_decide_eq_true hc10
    refine WK.skip ?_
    refine WK.seq ?_
    refine WK.block ?_
    refine WK.seq ?_
    have he0 : e' = 0 := by omega
    subst he0
    refine WK.sat (fun w s => Sat.rdShut ⟨ad, len, cap⟩ (s.sel (As := rdL q cs 0 ⟨ad, len, cap⟩) (by dsimp only [rdL]; exact (by repeat (first | exact SelL.nil | exact SelL.self | apply SelL.cons | exact Sel.here | apply Sel.there | apply SelL.skip))))) ?_
    refine WK.region ?_
    refine WL.yld (wanted_plain (by rfl)) (yld_move (by rfl)) (by rfl) (by decide) ?_
    refine WL.eff (wanted_plain (by rfl)) (eff_call (by exact Try.call60) (by repeat (first | exact Evs.nil | apply Evs.cons | rfl)) (by repeat (first | exact SelL.nil | exact SelL.self | apply SelL.cons | exact Sel.here | apply Sel.there | apply SelL.skip)) (rdNext_spec q cs 0)) (by rfl) (by decide) ?_
    rintro _ -
    try dsimp only
    refine WL.yld (wanted_plain (by rfl)) (yld_assign (by rfl)) (by rfl) (by decide) ?_
    refine WL.done ?_
    refine WK.seq ?_
    refine WK.seq ?_
    refine WK.region ?_
    obtain ⟨hu, hi9, n, rfl, hn⟩ : uintE bs e = uintR i nI.toNat cs ∧ i ≤ 9 ∧ ∃ n : Nat, nI = n ∧ n < 2 ^ (7 * i) := by
      rcases hst with h | h
      · exact h.2
      · exact absurd rfl h.1
    rcases cs with _ | ⟨b, tl⟩
    · skip
      rw [show nextM [] 0 = (0, [], 3) from rfl]
      dsimp only
      refine WL.yld (wanted_plain (by rfl)) (yld_move (by rfl)) (by rfl) (by decide) ?_
      refine WL.yld (wanted_plain (by rfl)) (yld_eql (by rfl) (by rfl)) (by rfl) (by decide) ?_
      refine WL.yld (wanted_plain (by rfl)) (yld_move (by rfl)) (by rfl) (by decide) ?_
      refine WL.split (d := 17) (by rfl) (fun hc17 => ?_) (fun hc17 => ?_)
      · skip
        have hc17 := of_decide_eq_true hc17
        refine WL.yld (wanted_some (by rfl) (by rfl) (by rfl)) (yld_move (by rfl)) (by rfl) (by decide) ?_
        refine WL.yld (wanted_some (by rfl) (by rfl) (by rfl)) (yld_gtr (by rfl) (by rfl)) (by rfl) (by decide) ?_
        refine WL.yld (wanted_plain (by rfl)) (yld_pick_true (by rfl) (by rfl)) (by rfl) (by decide) ?_
        refine WL.yld (wanted_plain (by rfl)) (yld_move (by rfl)) (by rfl) (by decide) ?_
        refine WL.split (d := 21) (by rfl) (fun hc21 => ?_) (fun hc21 => ?_)
        · skip
          have hc21 := of_decide_eq_true hc21
          refine WL.skip (unwanted_some (by rfl) (by rfl) (by rfl) (by rfl)) (by rfl) (by decide) ?_
          refine WL.skip (unwanted_some (by rfl) (by rfl) (by rfl) (by rfl)) (by rfl) (by decide) ?_
          refine WL.skip (unwanted_some (by rfl) (by rfl) (by rfl) (by rfl)) (by rfl) (by decide) ?_
          refine WL.skip (unwanted_undef (by rfl) (by rfl) (by rfl)) (by rfl) (by decide) ?_
          refine WL.skip (unwanted_undef (by rfl) (by rfl) (by rfl)) (by rfl) (by decide) ?_
          refine WL.skip (unwanted_some (by rfl) (by rfl) (by rfl) (by rfl)) (by rfl) (by decide) ?_
          refine WL.yld (wanted_plain (by rfl)) (yld_pick_true (by rfl) (by rfl)) (by rfl) (by decide) ?_
          refine WL.done ?_
          refine WK.cond (by rfl) (fun _ => ?_) (fun h => by cases h)
          refine WK.region ?_
          refine WL.yld (wanted_plain (by rfl)) (yld_move (by rfl)) (by rfl) (by decide) ?_
          refine WL.eff (wanted_plain (by rfl)) (eff_call (by exact Try.call61) (by repeat (first | exact Evs.nil | apply Evs.cons | rfl)) (by repeat (first | exact SelL.nil | exact SelL.self | apply SelL.cons | exact Sel.here | apply Sel.there | apply SelL.skip)) (rdFail_spec q [] 3 2)) (by rfl) (by decide) ?_
          rintro _ -
          try dsimp only
          refine WL.done ?_
          refine WK.seq ?_
          refine WK.region ?_
          refine WL.yld (wanted_plain (by rfl)) (yld_move (by rfl)) (by rfl) (by decide) ?_
          refine WL.yld (wanted_plain (by rfl)) (yld_move (by rfl)) (by rfl) (by decide) ?_
          refine WL.yld (wanted_plain (by rfl)) (yld_andNot (by rfl) (by rfl) (by rfl)) (by rfl) (by decide) ?_
          refine WL.yld (wanted_plain (by rfl)) (yld_convInt (by rfl) (by exact Try.runUnderlying5) (by exact Try.runUnderlying75) (by rfl)) (by rfl) (by decide) ?_
          refine WL.yld (wanted_plain (by rfl)) (yld_move (by rfl)) (by rfl) (by decide) ?_
          refine WL.yld (wanted_plain (by rfl)) (yld_mul (by rfl) (by rfl) (by first | exact w64 (by omega) (by omega) | rfl)) (by rfl) (by decide) ?_
          refine WL.yld (wanted_plain (by rfl)) (yld_shl (by rfl) (by rfl) (by omega) (by rfl)) (by rfl) (by decide) ?_
          refine WL.yld (wanted_plain (by rfl)) (yld_or (by rfl) (by rfl) (by rfl)) (by rfl) (by decide) ?_
          refine WL.yld (wanted_plain (by rfl)) (yld_assign (by rfl)) (by rfl) (by decide) ?_
          refine WL.done ?_
          refine WK.seq ?_
          refine WK.openS (fun w s => Sat.rdOpen (s.sel1 (A := rdR q [] (failE 3 2)) (by repeat (first | exact .here | apply Sel.there)))) ?_
          rintro ⟨ad, len, cap⟩ -
          dsimp only [rdL, List.cons_append, List.nil_append]
          refine WK.region ?_
          refine WL.yld (wanted_plain (by rfl)) (yld_move (by rfl)) (by rfl) (by decide) ?_
          refine WL.yld (wanted_plain (by rfl)) (yld_lss (by rfl) (by rfl)) (by rfl) (by decide) ?_
          refine WL.yld (wanted_plain (by rfl)) (yld_move (by rfl)) (by rfl) (by decide) ?_
          refine WL.split (d := 41) (by rfl) (fun hc41 => ?_) (fun hc41 => ?_)
          · skip
            have hc41 := of_decide_eq_true hc41
            refine WL.yld (wanted_some (by rfl) (by rfl) (by rfl)) (yld_move (by rfl)) (by rfl) (by decide) ?_
            refine WL.yld (wanted_some (by rfl) (by rfl) (by rfl)) (yld_nilCheck (by rfl)) (by rfl) (by decide) ?_
            refine WL.yld (wanted_some (by rfl) (by rfl) (by rfl)) (yld_fieldAddr (by rfl) (by exact Try.runUnderlying101) (by rfl) (by exact Try.sizeOf32) (by rfl) (by rfl)) (by rfl) (by decide) ?_
            refine WL.yld (wanted_some (by rfl) (by rfl) (by rfl)) (yld_load (by rfl) (by exact Try.isAgg32) (by repeat (first | exact .here | apply Sel.there)) (by rfl)) (by rfl) (by decide) ?_
            refine WL.yld (wanted_some (by rfl) (by rfl) (by rfl)) (yld_eql (by rfl) (by rfl)) (by rfl) (by decide) ?_
            refine WL.yld (wanted_plain (by rfl)) (yld_pick_true (by rfl) (by rfl)) (by rfl) (by decide) ?_
            refine WL.done ?_
            refine WK.cond (by rfl) (fun hc47 => ?_) (fun hc47 => ?_)
            · skip
              have hc47 := of_decide_eq_true hc47
              simp [failE] at hc47
            · skip
              have hc47 := of_decide_eq_false hc47
              refine WK.skip ?_
              refine WK.endBlock ?_
              refine WK.region ?_
              refine WL.yld (wanted_plain (by rfl)) (yld_move (by rfl)) (by rfl) (by decide) ?_
              refine WL.yld (wanted_plain (by rfl)) (yld_add (by rfl) (by rfl) (by first | exact w64 (by omega) (by omega) | rfl)) (by rfl) (by decide) ?_
              refine WL.yld (wanted_plain (by rfl)) (yld_assign (by rfl)) (by rfl) (by decide) ?_
              refine WL.done ?_
              refine WK.sat (fun w s => Sat.rdShut ⟨ad, len, cap⟩ (s.sel (As := rdL q [] (failE 3 2) ⟨ad, len, cap⟩) (by dsimp only [rdL]; exact (by repeat (first | exact SelL.nil | exact SelL.self | apply SelL.cons | exact Sel.here | apply Sel.there | apply SelL.skip))))) ?_
              exact WK.next hN (i + 1, _, [], (failE 3 2)) ⟨by dsimp only; omega, .inr ⟨by simp [failE], by rw [hu]; rfl⟩⟩ (by simp [failE]) (by repeat (first | exact KK.nil | refine KK.cons (by first | rfl | (simp; done)) ?_)) (by repeat (first | exact SelL.nil | exact SelL.self | apply SelL.cons | exact Sel.here | apply Sel.there | apply SelL.skip))
          · skip
            have hc41 := of_decide_eq_false hc41
            refine WL.skip (unwanted_some (by rfl) (by rfl) (by rfl) (by rfl)) (by rfl) (by decide) ?_
            refine WL.skip (unwanted_some (by rfl) (by rfl) (by rfl) (by rfl)) (by rfl) (by decide) ?_
            refine WL.skip (unwanted_some (by rfl) (by rfl) (by rfl) (by rfl)) (by rfl) (by decide) ?_
            refine WL.skip (unwanted_some (by rfl) (by rfl) (by rfl) (by rfl)) (by rfl) (by decide) ?_
            refine WL.skip (unwanted_some (by rfl) (by rfl) (by rfl) (by rfl)) (by rfl) (by decide) ?_
            refine WL.yld (wanted_plain (by rfl)) (yld_pick_false (by rfl) (by rfl)) (by rfl) (by decide) ?_
            refine WL.done ?_
            refine WK.cond (by rfl) (fun h => by cases h) (fun _ => ?_)
            refine WK.skip ?_
            refine WK.endBlock ?_
            refine WK.region ?_
            refine WL.yld (wanted_plain (by rfl)) (yld_move (by rfl)) (by rfl) (by decide) ?_
            refine WL.yld (wanted_plain (by rfl)) (yld_add (by rfl) (by rfl) (by first | exact w64 (by omega) (by omega) | rfl)) (by rfl) (by decide) ?_
            refine WL.yld (wanted_plain (by rfl)) (yld_assign (by rfl)) (by rfl) (by decide) ?_
            refine WL.done ?_
            refine WK.sat (fun w s => Sat.rdShut ⟨ad, len, cap⟩ (s.sel (As := rdL q [] (failE 3 2) ⟨ad, len, cap⟩) (by dsimp only [rdL]; exact (by repeat (first | exact SelL.nil | exact SelL.self | apply SelL.cons | exact Sel.here | apply Sel.there | apply SelL.skip))))) ?_
            exact WK.next hN (i + 1, _, [], (failE 3 2)) ⟨by dsimp only; omega, .inr ⟨by simp [failE], by rw [hu]; rfl⟩⟩ (by simp [failE]) (by repeat (first | exact KK.nil | refine KK.cons (by first | rfl | (simp; done)) ?_)) (by repeat (first | exact SelL.nil | exact SelL.self | apply SelL.cons | exact Sel.here | apply Sel.there | apply SelL.skip))
        · skip
          have hc21 := of_decide_eq_false hc21
          refine WL.yld (wanted_some (by rfl) (by rfl) (by rfl)) (yld_move (by rfl)) (by rfl) (by decide) ?_
          refine WL.yld (wanted_some (by rfl) (by rfl) (by rfl)) (yld_gtr (by rfl) (by rfl)) (by rfl) (by decide) ?_
          refine WL.yld (wanted_some (by rfl) (by rfl) (by rfl)) (yld_move (by rfl)) (by rfl) (by decide) ?_
          refine WL.split (d := 24) (by rfl) (fun hc24 => ?_) (fun hc24 => ?_)
          · skip
            have hc24 := of_decide_eq_true hc24
            refine WL.yld (wanted_some (by rfl) (by rfl) (by rfl)) (yld_move (by rfl)) (by rfl) (by decide) ?_
            refine WL.yld (wanted_some (by rfl) (by rfl) (by rfl)) (yld_eql (by rfl) (by rfl)) (by rfl) (by decide) ?_
            refine WL.yld (wanted_some (by rfl) (by rfl) (by rfl)) (yld_pick_true (by rfl) (by rfl)) (by rfl) (by decide) ?_
            refine WL.yld (wanted_plain (by rfl)) (yld_pick_false (by rfl) (by rfl)) (by rfl) (by decide) ?_
            refine WL.done ?_
            refine WK.cond (by rfl) (fun hc28 => ?_) (fun hc28 => ?_)
            · skip
              have hc28 := of_decide_eq_true hc28
              refine WK.region ?_
              refine WL.yld (wanted_plain (by rfl)) (yld_move (by rfl)) (by rfl) (by decide) ?_
              refine WL.eff (wanted_plain (by rfl)) (eff_call (by exact Try.call61) (by repeat (first | exact Evs.nil | apply Evs.cons | rfl)) (by repeat (first | exact SelL.nil | exact SelL.self | apply SelL.cons | exact Sel.here | apply Sel.there | apply SelL.skip)) (rdFail_spec q [] 3 2)) (by rfl) (by decide) ?_
              rintro _ -
              try dsimp only
              refine WL.done ?_
              refine WK.seq ?_
              refine WK.region ?_
              refine WL.yld (wanted_plain (by rfl)) (yld_move (by rfl)) (by rfl) (by decide) ?_
              refine WL.yld (wanted_plain (by rfl)) (yld_move (by rfl)) (by rfl) (by decide) ?_
              refine WL.yld (wanted_plain (by rfl)) (yld_andNot (by rfl) (by rfl) (by rfl)) (by rfl) (by decide) ?_
              refine WL.yld (wanted_plain (by rfl)) (yld_convInt (by rfl) (by exact Try.runUnderlying5) (by exact Try.runUnderlying75) (by rfl)) (by rfl) (by decide) ?_
              refine WL.yld (wanted_plain (by rfl)) (yld_move (by rfl)) (by rfl) (by decide) ?_
              refine WL.yld (wanted_plain (by rfl)) (yld_mul (by rfl) (by rfl) (by first | exact w64 (by omega) (by omega) | rfl)) (by rfl) (by decide) ?_
              refine WL.yld (wanted_plain (by rfl)) (yld_shl (by rfl) (by rfl) (by omega) (by rfl)) (by rfl) (by decide) ?_
              refine WL.yld (wanted_plain (by rfl)) (yld_or (by rfl) (by rfl) (by rfl)) (by rfl) (by decide) ?_
              refine WL.yld (wanted_plain (by rfl)) (yld_assign (by rfl)) (by rfl) (by decide) ?_
              refine WL.done ?_
              refine WK.seq ?_
              refine WK.openS (fun w s => Sat.rdOpen (s.sel1 (A := rdR q [] (failE 3 2)) (by repeat (first | exact .here | apply Sel.there)))) ?_
              rintro ⟨ad, len, cap⟩ -
              dsimp only [rdL, List.cons_append, List.nil_append]
              refine WK.region ?_
              refine WL.yld (wanted_plain (by rfl)) (yld_move (by rfl)) (by rfl) (by decide) ?_
              refine WL.yld (wanted_plain (by rfl)) (yld_lss (by rfl) (by rfl)) (by rfl) (by decide) ?_
              refine WL.yld (wanted_plain (by rfl)) (yld_move (by rfl)) (by rfl) (by decide) ?_
              refine WL.split (d := 41) (by rfl) (fun hc41 => ?_) (fun hc41 => ?_)
              · skip
                have hc41 := of_decide_eq_true hc41
                refine WL.yld (wanted_some (by rfl) (by rfl) (by rfl)) (yld_move (by rfl)) (by rfl) (by decide) ?_
                refine WL.yld (wanted_some (by rfl) (by rfl) (by rfl)) (yld_nilCheck (by rfl)) (by rfl) (by decide) ?_
                refine WL.yld (wanted_some (by rfl) (by rfl) (by rfl)) (yld_fieldAddr (by rfl) (by exact Try.runUnderlying101) (by rfl) (by exact Try.sizeOf32) (by rfl) (by rfl)) (by rfl) (by decide) ?_
                refine WL.yld (wanted_some (by rfl) (by rfl) (by rfl)) (yld_load (by rfl) (by exact Try.isAgg32) (by repeat (first | exact .here | apply Sel.there)) (by rfl)) (by rfl) (by decide) ?_
                refine WL.yld (wanted_some (by rfl) (by rfl) (by rfl)) (yld_eql (by rfl) (by rfl)) (by rfl) (by decide) ?_
                refine WL.yld (wanted_plain (by rfl)) (yld_pick_true (by rfl) (by rfl)) (by rfl) (by decide) ?_
                refine WL.done ?_
                refine WK.cond (by rfl) (fun hc47 => ?_) (fun hc47 => ?_)
                · skip
                  have hc47 := of_decide_eq_true hc47
                  simp [failE] at hc47
                · skip
                  have hc47 := of_decide_eq_false hc47
                  refine WK.skip ?_
                  refine WK.endBlock ?_
                  refine WK.region ?_
                  refine WL.yld (wanted_plain (by rfl)) (yld_move (by rfl)) (by rfl) (by decide) ?_
                  refine WL.yld (wanted_plain (by rfl)) (yld_add (by rfl) (by rfl) (by first | exact w64 (by omega) (by omega) | rfl)) (by rfl) (by decide) ?_
                  refine WL.yld (wanted_plain (by rfl)) (yld_assign (by rfl)) (by rfl) (by decide) ?_
                  refine WL.done ?_
                  refine WK.sat (fun w s => Sat.rdShut ⟨ad, len, cap⟩ (s.sel (As := rdL q [] (failE 3 2) ⟨ad, len, cap⟩) (by dsimp only [rdL]; exact (by repeat (first | exact SelL.nil | exact SelL.self | apply SelL.cons | exact Sel.here | apply Sel.there | apply SelL.skip))))) ?_
                  exact WK.next hN (i + 1, _, [], (failE 3 2)) ⟨by dsimp only; omega, .inr ⟨by simp [failE], by rw [hu]; rfl⟩⟩ (by simp [failE]) (by repeat (first | exact KK.nil | refine KK.cons (by first | rfl | (simp; done)) ?_)) (by repeat (first | exact SelL.nil | exact SelL.self | apply SelL.cons | exact Sel.here | apply Sel.there | apply SelL.skip))
              · skip
                have hc41 := of_decide_eq_false hc41
                refine WL.skip (unwanted_some (by rfl) (by rfl) (by rfl) (by rfl)) (by rfl) (by decide) ?_
                refine WL.skip (unwanted_some (by rfl) (by rfl) (by rfl) (by rfl)) (by rfl) (by decide) ?_
                refine WL.skip (unwanted_some (by rfl) (by rfl) (by rfl) (by rfl)) (by rfl) (by decide) ?_
                refine WL.skip (unwanted_some (by rfl) (by rfl) (by rfl) (by rfl)) (by rfl) (by decide) ?_
                refine WL.skip (unwanted_some (by rfl) (by rfl) (by rfl) (by rfl)) (by rfl) (by decide) ?_
                refine WL.yld (wanted_plain (by rfl)) (yld_pick_false (by rfl) (by rfl)) (by rfl) (by decide) ?_
                refine WL.done ?_
                refine WK.cond (by rfl) (fun h => by cases h) (fun _ => ?_)
                refine WK.skip ?_
                refine WK.endBlock ?_
                refine WK.region ?_
                refine WL.yld (wanted_plain (by rfl)) (yld_move (by rfl)) (by rfl) (by decide) ?_
                refine WL.yld (wanted_plain (by rfl)) (yld_add (by rfl) (by rfl) (by first | exact w64 (by omega) (by omega) | rfl)) (by rfl) (by decide) ?_
                refine WL.yld (wanted_plain (by rfl)) (yld_assign (by rfl)) (by rfl) (by decide) ?_
                refine WL.done ?_
                refine WK.sat (fun w s => Sat.rdShut ⟨ad, len, cap⟩ (s.sel (As := rdL q [] (failE 3 2) ⟨ad, len, cap⟩) (by dsimp only [rdL]; exact (by repeat (first | exact SelL.nil | exact SelL.self | apply SelL.cons | exact Sel.here | apply Sel.there | apply SelL.skip))))) ?_
                exact WK.next hN (i + 1, _, [], (failE 3 2)) ⟨by dsimp only; omega, .inr ⟨by simp [failE], by rw [hu]; rfl⟩⟩ (by simp [failE]) (by repeat (first | exact KK.nil | refine KK.cons (by first | rfl | (simp; done)) ?_)) (by repeat (first | exact SelL.nil | exact SelL.self | apply SelL.cons | exact Sel.here | apply Sel.there | apply SelL.skip))
            · skip
              have hc28 := of_decide_eq_false hc28
              refine WK.skip ?_
              refine WK.seq ?_
              refine WK.region ?_
              refine WL.yld (wanted_plain (by rfl)) (yld_move (by rfl)) (by rfl) (by decide) ?_
              refine WL.yld (wanted_plain (by rfl)) (yld_move (by rfl)) (by rfl) (by decide) ?_
              refine WL.yld (wanted_plain (by rfl)) (yld_andNot (by rfl) (by rfl) (by rfl)) (by rfl) (by decide) ?_
              refine WL.yld (wanted_plain (by rfl)) (yld_convInt (by rfl) (by exact Try.runUnderlying5) (by exact Try.runUnderlying75) (by rfl)) (by rfl) (by decide) ?_
              refine WL.yld (wanted_plain (by rfl)) (yld_move (by rfl)) (by rfl) (by decide) ?_
              refine WL.yld (wanted_plain (by rfl)) (yld_mul (by rfl) (by rfl) (by first | exact w64 (by omega) (by omega) | rfl)) (by rfl) (by decide) ?_
              refine WL.yld (wanted_plain (by rfl)) (yld_shl (by rfl) (by rfl) (by omega) (by rfl)) (by rfl) (by decide) ?_
              refine WL.yld (wanted_plain (by rfl)) (yld_or (by rfl) (by rfl) (by rfl)) (by rfl) (by decide) ?_
              refine WL.yld (wanted_plain (by rfl)) (yld_assign (by rfl)) (by rfl) (by decide) ?_
              refine WL.done ?_
              refine WK.seq ?_
              refine WK.openS (fun w s => Sat.rdOpen (s.sel1 (A := rdR q [] 3) (by repeat (first | exact .here | apply Sel.there)))) ?_
              rintro ⟨ad, len, cap⟩ -
              dsimp only [rdL, List.cons_append, List.nil_append]
              refine WK.region ?_
              refine WL.yld (wanted_plain (by rfl)) (yld_move (by rfl)) (by rfl) (by decide) ?_
              refine WL.yld (wanted_plain (by rfl)) (yld_lss (by rfl) (by rfl)) (by rfl) (by decide) ?_
              refine WL.yld (wanted_plain (by rfl)) (yld_move (by rfl)) (by rfl) (by decide) ?_
              refine WL.split (d := 41) (by rfl) (fun hc41 => ?_) (fun hc41 => ?_)
              · skip
                have hc41 := of_decide_eq_true hc41
                refine WL.yld (wanted_some (by rfl) (by rfl) (by rfl)) (yld_move (by rfl)) (by rfl) (by decide) ?_
                refine WL.yld (wanted_some (by rfl) (by rfl) (by rfl)) (yld_nilCheck (by rfl)) (by rfl) (by decide) ?_
                refine WL.yld (wanted_some (by rfl) (by rfl) (by rfl)) (yld_fieldAddr (by rfl) (by exact Try.runUnderlying101) (by rfl) (by exact Try.sizeOf32) (by rfl) (by rfl)) (by rfl) (by decide) ?_
                refine WL.yld (wanted_some (by rfl) (by rfl) (by rfl)) (yld_load (by rfl) (by exact Try.isAgg32) (by repeat (first | exact .here | apply Sel.there)) (by rfl)) (by rfl) (by decide) ?_
                refine WL.yld (wanted_some (by rfl) (by rfl) (by rfl)) (yld_eql (by rfl) (by rfl)) (by rfl) (by decide) ?_
                refine WL.yld (wanted_plain (by rfl)) (yld_pick_true (by rfl) (by rfl)) (by rfl) (by decide) ?_
                refine WL.done ?_
                refine WK.cond (by rfl) (fun hc47 => ?_) (fun hc47 => ?_)
                · skip
                  have hc47 := of_decide_eq_true hc47
                  simp [failE] at hc47
                · skip
                  have hc47 := of_decide_eq_false hc47
                  refine WK.skip ?_
                  refine WK.endBlock ?_
                  refine WK.region ?_
                  refine WL.yld (wanted_plain (by rfl)) (yld_move (by rfl)) (by rfl) (by decide) ?_
                  refine WL.yld (wanted_plain (by rfl)) (yld_add (by rfl) (by rfl) (by first | exact w64 (by omega) (by omega) | rfl)) (by rfl) (by decide) ?_
                  refine WL.yld (wanted_plain (by rfl)) (yld_assign (by rfl)) (by rfl) (by decide) ?_
                  refine WL.done ?_
                  refine WK.sat (fun w s => Sat.rdShut ⟨ad, len, cap⟩ (s.sel (As := rdL q [] 3 ⟨ad, len, cap⟩) (by dsimp only [rdL]; exact (by repeat (first | exact SelL.nil | exact SelL.self | apply SelL.cons | exact Sel.here | apply Sel.there | apply SelL.skip))))) ?_
                  exact WK.next hN (i + 1, _, [], 3) ⟨by dsimp only; omega, .inr ⟨by simp [failE], by rw [hu]; rfl⟩⟩ (by simp [failE]) (by repeat (first | exact KK.nil | refine KK.cons (by first | rfl | (simp; done)) ?_)) (by repeat (first | exact SelL.nil | exact SelL.self | apply SelL.cons | exact Sel.here | apply Sel.there | apply SelL.skip))
              · skip
                have hc41 := of_decide_eq_false hc41
                refine WL.skip (unwanted_some (by rfl) (by rfl) (by rfl) (by rfl)) (by rfl) (by decide) ?_
                refine WL.skip (unwanted_some (by rfl) (by rfl) (by rfl) (by rfl)) (by rfl) (by decide) ?_
                refine WL.skip (unwanted_some (by rfl) (by rfl) (by rfl) (by rfl)) (by rfl) (by decide) ?_
                refine WL.skip (unwanted_some (by rfl) (by rfl) (by rfl) (by rfl)) (by rfl) (by decide) ?_
                refine WL.skip (unwanted_some (by rfl) (by rfl) (by rfl) (by rfl)) (by rfl) (by decide) ?_
                refine WL.yld (wanted_plain (by rfl)) (yld_pick_false (by rfl) (by rfl)) (by rfl) (by decide) ?_
                refine WL.done ?_
                refine WK.cond (by rfl) (fun h => by cases h) (fun _ => ?_)
                refine WK.skip ?_
                refine WK.endBlock ?_
                refine WK.region ?_
                refine WL.yld (wanted_plain (by rfl)) (yld_move (by rfl)) (by rfl) (by decide) ?_
                refine WL.yld (wanted_plain (by rfl)) (yld_add (by rfl) (by rfl) (by first | exact w64 (by omega) (by omega) | rfl)) (by rfl) (by decide) ?_
                refine WL.yld (wanted_plain (by rfl)) (yld_assign (by rfl)) (by rfl) (by decide) ?_
                refine WL.done ?_
                refine WK.sat (fun w s => Sat.rdShut ⟨ad, len, cap⟩ (s.sel (As := rdL q [] 3 ⟨ad, len, cap⟩) (by dsimp only [rdL]; exact (by repeat (first | exact SelL.nil | exact SelL.self | apply SelL.cons | exact Sel.here | apply Sel.there | apply SelL.skip))))) ?_
                exact WK.next hN (i + 1, _, [], 3) ⟨by dsimp only; omega, .inr ⟨by simp [failE], by rw [hu]; rfl⟩⟩ (by simp [failE]) (by repeat (first | exact KK.nil | refine KK.cons (by first | rfl | (simp; done)) ?_)) (by repeat (first | exact SelL.nil | exact SelL.self | apply SelL.cons | exact Sel.here | apply Sel.there | apply SelL.skip))
          · skip
            have hc24 := of_decide_eq_false hc24
            refine WL.skip (unwanted_some (by rfl) (by rfl) (by rfl) (by rfl)) (by rfl) (by decide) ?_
            refine WL.skip (unwanted_some (by rfl) (by rfl) (by rfl) (by rfl)) (by rfl) (by decide) ?_
            refine WL.yld (wanted_some (by rfl) (by rfl) (by rfl)) (yld_pick_false (by rfl) (by rfl)) (by rfl) (by decide) ?_
            refine WL.yld (wanted_plain (by rfl)) (yld_pick_false (by rfl) (by rfl)) (by rfl) (by decide) ?_
            refine WL.done ?_
            refine WK.cond (by rfl) (fun h => by cases h) (fun _ => ?_)
            refine WK.skip ?_
            refine WK.seq ?_
            refine WK.region ?_
            refine WL.yld (wanted_plain (by rfl)) (yld_move (by rfl)) (by rfl) (by decide) ?_
            refine WL.yld (wanted_plain (by rfl)) (yld_move (by rfl)) (by rfl) (by decide) ?_
            refine WL.yld (wanted_plain (by rfl)) (yld_andNot (by rfl) (by rfl) (by rfl)) (by rfl) (by decide) ?_
            refine WL.yld (wanted_plain (by rfl)) (yld_convInt (by rfl) (by exact Try.runUnderlying5) (by exact Try.runUnderlying75) (by rfl)) (by rfl) (by decide) ?_
            refine WL.yld (wanted_plain (by rfl)) (yld_move (by rfl)) (by rfl) (by decide) ?_
            refine WL.yld (wanted_plain (by rfl)) (yld_mul (by rfl) (by rfl) (by first | exact w64 (by omega) (by omega) | rfl)) (by rfl) (by decide) ?_
            refine WL.yld (wanted_plain (by rfl)) (yld_shl (by rfl) (by rfl) (by omega) (by rfl)) (by rfl) (by decide) ?_
            refine WL.yld (wanted_plain (by rfl)) (yld_or (by rfl) (by rfl) (by rfl)) (by rfl) (by decide) ?_
            refine WL.yld (wanted_plain (by rfl)) (yld_assign (by rfl)) (by rfl) (by decide) ?_
            refine WL.done ?_
            refine WK.seq ?_
            refine WK.openS (fun w s => Sat.rdOpen (s.sel1 (A := rdR q [] 3) (by repeat (first | exact .here | apply Sel.there)))) ?_
            rintro ⟨ad, len, cap⟩ -
            dsimp only [rdL, List.cons_append, List.nil_append]
            refine WK.region ?_
            refine WL.yld (wanted_plain (by rfl)) (yld_move (by rfl)) (by rfl) (by decide) ?_
            refine WL.yld (wanted_plain (by rfl)) (yld_lss (by rfl) (by rfl)) (by rfl) (by decide) ?_
            refine WL.yld (wanted_plain (by rfl)) (yld_move (by rfl)) (by rfl) (by decide) ?_
            refine WL.split (d := 41) (by rfl) (fun hc41 => ?_) (fun hc41 => ?_)
            · skip
              have hc41 := of_decide_eq_true hc41
              refine WL.yld (wanted_some (by rfl) (by rfl) (by rfl)) (yld_move (by rfl)) (by rfl) (by decide) ?_
              refine WL.yld (wanted_some (by rfl) (by rfl) (by rfl)) (yld_nilCheck (by rfl)) (by rfl) (by decide) ?_
              refine WL.yld (wanted_some (by rfl) (by rfl) (by rfl)) (yld_fieldAddr (by rfl) (by exact Try.runUnderlying101) (by rfl) (by exact Try.sizeOf32) (by rfl) (by rfl)) (by rfl) (by decide) ?_
              refine WL.yld (wanted_some (by rfl) (by rfl) (by rfl)) (yld_load (by rfl) (by exact Try.isAgg32) (by repeat (first | exact .here | apply Sel.there)) (by rfl)) (by rfl) (by decide) ?_
              refine WL.yld (wanted_some (by rfl) (by rfl) (by rfl)) (yld_eql (by rfl) (by rfl)) (by rfl) (by decide) ?_
              refine WL.yld (wanted_plain (by rfl)) (yld_pick_true (by rfl) (by rfl)) (by rfl) (by decide) ?_
              refine WL.done ?_
              refine WK.cond (by rfl) (fun hc47 => ?_) (fun hc47 => ?_)
              · skip
                have hc47 := of_decide_eq_true hc47
                simp [failE] at hc47
              · skip
                have hc47 := of_decide_eq_false hc47
                refine WK.skip ?_
                refine WK.endBlock ?_
                refine WK.region ?_
                refine WL.yld (wanted_plain (by rfl)) (yld_move (by rfl)) (by rfl) (by decide) ?_
                refine WL.yld (wanted_plain (by rfl)) (yld_add (by rfl) (by rfl) (by first | exact w64 (by omega) (by omega) | rfl)) (by rfl) (by decide) ?_
                refine WL.yld (wanted_plain (by rfl)) (yld_assign (by rfl)) (by rfl) (by decide) ?_
                refine WL.done ?_
                refine WK.sat (fun w s => Sat.rdShut ⟨ad, len, cap⟩ (s.sel (As := rdL q [] 3 ⟨ad, len, cap⟩) (by dsimp only [rdL]; exact (by repeat (first | exact SelL.nil | exact SelL.self | apply SelL.cons | exact Sel.here | apply Sel.there | apply SelL.skip))))) ?_
                exact WK.next hN (i + 1, _, [], 3) ⟨by dsimp only; omega, .inr ⟨by simp [failE], by rw [hu]; rfl⟩⟩ (by simp [failE]) (by repeat (first | exact KK.nil | refine KK.cons (by first | rfl | (simp; done)) ?_)) (by repeat (first | exact SelL.nil | exact SelL.self | apply SelL.cons | exact Sel.here | apply Sel.there | apply SelL.skip))
            · skip
              have hc41 := of_decide_eq_false hc41
              refine WL.skip (unwanted_some (by rfl) (by rfl) (by rfl) (by rfl)) (by rfl) (by decide) ?_
              refine WL.skip (unwanted_some (by rfl) (by rfl) (by rfl) (by rfl)) (by rfl) (by decide) ?_
              refine WL.skip (unwanted_some (by rfl) (by rfl) (by rfl) (by rfl)) (by rfl) (by decide) ?_
              refine WL.skip (unwanted_some (by rfl) (by rfl) (by rfl) (by rfl)) (by rfl) (by decide) ?_
              refine WL.skip (unwanted_some (by rfl) (by rfl) (by rfl) (by rfl)) (by rfl) (by decide) ?_
              refine WL.yld (wanted_plain (by rfl)) (yld_pick_false (by rfl) (by rfl)) (by rfl) (by decide) ?_
              refine WL.done ?_
              refine WK.cond (by rfl) (fun h => by cases h) (fun _ => ?_)
              refine WK.skip ?_
              refine WK.endBlock ?_
              refine WK.region ?_
              refine WL.yld (wanted_plain (by rfl)) (yld_move (by rfl)) (by rfl) (by decide) ?_
              refine WL.yld (wanted_plain (by rfl)) (yld_add (by rfl) (by rfl) (by first | exact w64 (by omega) (by omega) | rfl)) (by rfl) (by decide) ?_
              refine WL.yld (wanted_plain (by rfl)) (yld_assign (by rfl)) (by rfl) (by decide) ?_
              refine WL.done ?_
              refine WK.sat (fun w s => Sat.rdShut ⟨ad, len, cap⟩ (s.sel (As := rdL q [] 3 ⟨ad, len, cap⟩) (by dsimp only [rdL]; exact (by repeat (first | exact SelL.nil | exact SelL.self | apply SelL.cons | exact Sel.here | apply Sel.there | apply SelL.skip))))) ?_
              exact WK.next hN (i + 1, _, [], 3) ⟨by dsimp only; omega, .inr ⟨by simp [failE], by rw [hu]; rfl⟩⟩ (by simp [failE]) (by repeat (first | exact KK.nil | refine KK.cons (by first | rfl | (simp; done)) ?_)) (by repeat (first | exact SelL.nil | exact SelL.self | apply SelL.cons | exact Sel.here | apply Sel.there | apply SelL.skip))
      · skip
        have hc17 := of_decide_eq_false hc17
        refine WL.skip (unwanted_some (by rfl) (by rfl) (by rfl) (by rfl)) (by rfl) (by decide) ?_
        refine WL.skip (unwanted_some (by rfl) (by rfl) (by rfl) (by rfl)) (by rfl) (by decide) ?_
        refine WL.yld (wanted_plain (by rfl)) (yld_pick_false (by rfl) (by rfl)) (by rfl) (by decide) ?_
        refine WL.yld (wanted_plain (by rfl)) (yld_move (by rfl)) (by rfl) (by decide) ?_
        refine WL.yld (wanted_some (by rfl) (by rfl) (by rfl)) (yld_move (by rfl)) (by rfl) (by decide) ?_
        refine WL.yld (wanted_some (by rfl) (by rfl) (by rfl)) (yld_gtr (by rfl) (by rfl)) (by rfl) (by decide) ?_
        refine WL.yld (wanted_some (by rfl) (by rfl) (by rfl)) (yld_move (by rfl)) (by rfl) (by decide) ?_
        refine WL.split (d := 24) (by rfl) (fun hc24 => ?_) (fun hc24 => ?_)
        · skip
          have hc24 := of_decide_eq_true hc24
          refine WL.yld (wanted_some (by rfl) (by rfl) (by rfl)) (yld_move (by rfl)) (by rfl) (by decide) ?_
          refine WL.yld (wanted_some (by rfl) (by rfl) (by rfl)) (yld_eql (by rfl) (by rfl)) (by rfl) (by decide) ?_
          refine WL.yld (wanted_some (by rfl) (by rfl) (by rfl)) (yld_pick_true (by rfl) (by rfl)) (by rfl) (by decide) ?_
          refine WL.yld (wanted_plain (by rfl)) (yld_pick_false (by rfl) (by rfl)) (by rfl) (by decide) ?_
          refine WL.done ?_
          refine WK.cond (by rfl) (fun hc28 => ?_) (fun hc28 => ?_)
          · skip
            have hc28 := of_decide_eq_true hc28
            refine WK.region ?_
            refine WL.yld (wanted_plain (by rfl)) (yld_move (by rfl)) (by rfl) (by decide) ?_
            refine WL.eff (wanted_plain (by rfl)) (eff_call (by exact Try.call61) (by repeat (first | exact Evs.nil | apply Evs.cons | rfl)) (by repeat (first | exact SelL.nil | exact SelL.self | apply SelL.cons | exact Sel.here | apply Sel.there | apply SelL.skip)) (rdFail_spec q [] 3 2)) (by rfl) (by decide) ?_
            rintro _ -
            try dsimp only
            refine WL.done ?_
            refine WK.seq ?_
            refine WK.region ?_
            refine WL.yld (wanted_plain (by rfl)) (yld_move (by rfl)) (by rfl) (by decide) ?_
            refine WL.yld (wanted_plain (by rfl)) (yld_move (by rfl)) (by rfl) (by decide) ?_
            refine WL.yld (wanted_plain (by rfl)) (yld_andNot (by rfl) (by rfl) (by rfl)) (by rfl) (by decide) ?_
            refine WL.yld (wanted_plain (by rfl)) (yld_convInt (by rfl) (by exact Try.runUnderlying5) (by exact Try.runUnderlying75) (by rfl)) (by rfl) (by decide) ?_
            refine WL.yld (wanted_plain (by rfl)) (yld_move (by rfl)) (by rfl) (by decide) ?_
            refine WL.yld (wanted_plain (by rfl)) (yld_mul (by rfl) (by rfl) (by first | exact w64 (by omega) (by omega) | rfl)) (by rfl) (by decide) ?_
            refine WL.yld (wanted_plain (by rfl)) (yld_shl (by rfl) (by rfl) (by omega) (by rfl)) (by rfl) (by decide) ?_
            refine WL.yld (wanted_plain (by rfl)) (yld_or (by rfl) (by rfl) (by rfl)) (by rfl) (by decide) ?_
            refine WL.yld (wanted_plain (by rfl)) (yld_assign (by rfl)) (by rfl) (by decide) ?_
            refine WL.done ?_
            refine WK.seq ?_
            refine WK.openS (fun w s => Sat.rdOpen (s.sel1 (A := rdR q [] (failE 3 2)) (by repeat (first | exact .here | apply Sel.there)))) ?_
            rintro ⟨ad, len, cap⟩ -
            dsimp only [rdL, List.cons_append, List.nil_append]
            refine WK.region ?_
            refine WL.yld (wanted_plain (by rfl)) (yld_move (by rfl)) (by rfl) (by decide) ?_
            refine WL.yld (wanted_plain (by rfl)) (yld_lss (by rfl) (by rfl)) (by rfl) (by decide) ?_
            refine WL.yld (wanted_plain (by rfl)) (yld_move (by rfl)) (by rfl) (by decide) ?_
            refine WL.split (d := 41) (by rfl) (fun hc41 => ?_) (fun hc41 => ?_)
            · skip
              have hc41 := of_decide_eq_true hc41
              refine WL.yld (wanted_some (by rfl) (by rfl) (by rfl)) (yld_move (by rfl)) (by rfl) (by decide) ?_
              refine WL.yld (wanted_some (by rfl) (by rfl) (by rfl)) (yld_nilCheck (by rfl)) (by rfl) (by decide) ?_
              refine WL.yld (wanted_some (by rfl) (by rfl) (by rfl)) (yld_fieldAddr (by rfl) (by exact Try.runUnderlying101) (by rfl) (by exact Try.sizeOf32) (by rfl) (by rfl)) (by rfl) (by decide) ?_
              refine WL.yld (wanted_some (by rfl) (by rfl) (by rfl)) (yld_load (by rfl) (by exact Try.isAgg32) (by repeat (first | exact .here | apply Sel.there)) (by rfl)) (by rfl) (by decide) ?_
              refine WL.yld (wanted_some (by rfl) (by rfl) (by rfl)) (yld_eql (by rfl) (by rfl)) (by rfl) (by decide) ?_
              refine WL.yld (wanted_plain (by rfl)) (yld_pick_true (by rfl) (by rfl)) (by rfl) (by decide) ?_
              refine WL.done ?_
              refine WK.cond (by rfl) (fun hc47 => ?_) (fun hc47 => ?_)
              · skip
                have hc47 := of_decide_eq_true hc47
                simp [failE] at hc47
              · skip
                have hc47 := of_decide_eq_false hc47
                refine WK.skip ?_
                refine WK.endBlock ?_
                refine WK.region ?_
                refine WL.yld (wanted_plain (by rfl)) (yld_move (by rfl)) (by rfl) (by decide) ?_
                refine WL.yld (wanted_plain (by rfl)) (yld_add (by rfl) (by rfl) (by first | exact w64 (by omega) (by omega) | rfl)) (by rfl) (by decide) ?_
                refine WL.yld (wanted_plain (by rfl)) (yld_assign (by rfl)) (by rfl) (by decide) ?_
                refine WL.done ?_
                refine WK.sat (fun w s => Sat.rdShut ⟨ad, len, cap⟩ (s.sel (As := rdL q [] (failE 3 2) ⟨ad, len, cap⟩) (by dsimp only [rdL]; exact (by repeat (first | exact SelL.nil | exact SelL.self | apply SelL.cons | exact Sel.here | apply Sel.there | apply SelL.skip))))) ?_
                exact WK.next hN (i + 1, _, [], (failE 3 2)) ⟨by dsimp only; omega, .inr ⟨by simp [failE], by rw [hu]; rfl⟩⟩ (by simp [failE]) (by repeat (first | exact KK.nil | refine KK.cons (by first | rfl | (simp; done)) ?_)) (by repeat (first | exact SelL.nil | exact SelL.self | apply SelL.cons | exact Sel.here | apply Sel.there | apply SelL.skip))
            · skip
              have hc41 := of_decide_eq_false hc41
              refine WL.skip (unwanted_some (by rfl) (by rfl) (by rfl) (by rfl)) (by rfl) (by decide) ?_
              refine WL.skip (unwanted_some (by rfl) (by rfl) (by rfl) (by rfl)) (by rfl) (by decide) ?_
              refine WL.skip (unwanted_some (by rfl) (by rfl) (by rfl) (by rfl)) (by rfl) (by decide) ?_
              refine WL.skip (unwanted_some (by rfl) (by rfl) (by rfl) (by rfl)) (by rfl) (by decide) ?_
              refine WL.skip (unwanted_some (by rfl) (by rfl) (by rfl) (by rfl)) (by rfl) (by decide) ?_
              refine WL.yld (wanted_plain (by rfl)) (yld_pick_false (by rfl) (by rfl)) (by rfl) (by decide) ?_
              refine WL.done ?_
              refine WK.cond (by rfl) (fun h => by cases h) (fun _ => ?_)
              refine WK.skip ?_
              refine WK.endBlock ?_
              refine WK.region ?_
              refine WL.yld (wanted_plain (by rfl)) (yld_move (by rfl)) (by rfl) (by decide) ?_
              refine WL.yld (wanted_plain (by rfl)) (yld_add (by rfl) (by rfl) (by first | exact w64 (by omega) (by omega) | rfl)) (by rfl) (by decide) ?_
              refine WL.yld (wanted_plain (by rfl)) (yld_assign (by rfl)) (by rfl) (by decide) ?_
              refine WL.done ?_
              refine WK.sat (fun w s => Sat.rdShut ⟨ad, len, cap⟩ (s.sel (As := rdL q [] (failE 3 2) ⟨ad, len, cap⟩) (by dsimp only [rdL]; exact (by repeat (first | exact SelL.nil | exact SelL.self | apply SelL.cons | exact Sel.here | apply Sel.there | apply SelL.skip))))) ?_
              exact WK.next hN (i + 1, _, [], (failE 3 2)) ⟨by dsimp only; omega, .inr ⟨by simp [failE], by rw [hu]; rfl⟩⟩ (by simp [failE]) (by repeat (first | exact KK.nil | refine KK.cons (by first | rfl | (simp; done)) ?_)) (by repeat (first | exact SelL.nil | exact SelL.self | apply SelL.cons | exact Sel.here | apply Sel.there | apply SelL.skip))
          · skip
            have hc28 := of_decide_eq_false hc28
            refine WK.skip ?_
            refine WK.seq ?_
            refine WK.region ?_
            refine WL.yld (wanted_plain (by rfl)) (yld_move (by rfl)) (by rfl) (by decide) ?_
            refine WL.yld (wanted_plain (by rfl)) (yld_move (by rfl)) (by rfl) (by decide) ?_
            refine WL.yld (wanted_plain (by rfl)) (yld_andNot (by rfl) (by rfl) (by rfl)) (by rfl) (by decide) ?_
            refine WL.yld (wanted_plain (by rfl)) (yld_convInt (by rfl) (by exact Try.runUnderlying5) (by exact Try.runUnderlying75) (by rfl)) (by rfl) (by decide) ?_
            refine WL.yld (wanted_plain (by rfl)) (yld_move (by rfl)) (by rfl) (by decide) ?_
            refine WL.yld (wanted_plain (by rfl)) (yld_mul (by rfl) (by rfl) (by first | exact w64 (by omega) (by omega) | rfl)) (by rfl) (by decide) ?_
            refine WL.yld (wanted_plain (by rfl)) (yld_shl (by rfl) (by rfl) (by omega) (by rfl)) (by rfl) (by decide) ?_
            refine WL.yld (wanted_plain (by rfl)) (yld_or (by rfl) (by rfl) (by rfl)) (by rfl) (by decide) ?_
            refine WL.yld (wanted_plain (by rfl)) (yld_assign (by rfl)) (by rfl) (by decide) ?_
            refine WL.done ?_
            refine WK.seq ?_
            refine WK.openS (fun w s => Sat.rdOpen (s.sel1 (A := rdR q [] 3) (by repeat (first | exact .here | apply Sel.there)))) ?_
            rintro ⟨ad, len, cap⟩ -
            dsimp only [rdL, List.cons_append, List.nil_append]
            refine WK.region ?_
            refine WL.yld (wanted_plain (by rfl)) (yld_move (by rfl)) (by rfl) (by decide) ?_
            refine WL.yld (wanted_plain (by rfl)) (yld_lss (by rfl) (by rfl)) (by rfl) (by decide) ?_
            refine WL.yld (wanted_plain (by rfl)) (yld_move (by rfl)) (by rfl) (by decide) ?_
            refine WL.split (d := 41) (by rfl) (fun hc41 => ?_) (fun hc41 => ?_)
            · skip
              have hc41 := of_decide_eq_true hc41
              refine WL.yld (wanted_some (by rfl) (by rfl) (by rfl)) (yld_move (by rfl)) (by rfl) (by decide) ?_
              refine WL.yld (wanted_some (by rfl) (by rfl) (by rfl)) (yld_nilCheck (by rfl)) (by rfl) (by decide) ?_
              refine WL.yld (wanted_some (by rfl) (by rfl) (by rfl)) (yld_fieldAddr (by rfl) (by exact Try.runUnderlying101) (by rfl) (by exact Try.sizeOf32) (by rfl) (by rfl)) (by rfl) (by decide) ?_
              refine WL.yld (wanted_some (by rfl) (by rfl) (by rfl)) (yld_load (by rfl) (by exact Try.isAgg32) (by repeat (first | exact .here | apply Sel.there)) (by rfl)) (by rfl) (by decide) ?_
              refine WL.yld (wanted_some (by rfl) (by rfl) (by rfl)) (yld_eql (by rfl) (by rfl)) (by rfl) (by decide) ?_
              refine WL.yld (wanted_plain (by rfl)) (yld_pick_true (by rfl) (by rfl)) (by rfl) (by decide) ?_
              refine WL.done ?_
              refine WK.cond (by rfl) (fun hc47 => ?_) (fun hc47 => ?_)
              · skip
                have hc47 := of_decide_eq_true hc47
                simp [failE] at hc47
              · skip
                have hc47 := of_decide_eq_false hc47
                refine WK.skip ?_
                refine WK.endBlock ?_
                refine WK.region ?_
                refine WL.yld (wanted_plain (by rfl)) (yld_move (by rfl)) (by rfl) (by decide) ?_
                refine WL.yld (wanted_plain (by rfl)) (yld_add (by rfl) (by rfl) (by first | exact w64 (by omega) (by omega) | rfl)) (by rfl) (by decide) ?_
                refine WL.yld (wanted_plain (by rfl)) (yld_assign (by rfl)) (by rfl) (by decide) ?_
                refine WL.done ?_
                refine WK.sat (fun w s => Sat.rdShut ⟨ad, len, cap⟩ (s.sel (As := rdL q [] 3 ⟨ad, len, cap⟩) (by dsimp only [rdL]; exact (by repeat (first | exact SelL.nil | exact SelL.self | apply SelL.cons | exact Sel.here | apply Sel.there | apply SelL.skip))))) ?_
                exact WK.next hN (i + 1, _, [], 3) ⟨by dsimp only; omega, .inr ⟨by simp [failE], by rw [hu]; rfl⟩⟩ (by simp [failE]) (by repeat (first | exact KK.nil | refine KK.cons (by first | rfl | (simp; done)) ?_)) (by repeat (first | exact SelL.nil | exact SelL.self | apply SelL.cons | exact Sel.here | apply Sel.there | apply SelL.skip))
            · skip
              have hc41 := of_decide_eq_false hc41
              refine WL.skip (unwanted_some (by rfl) (by rfl) (by rfl) (by rfl)) (by rfl) (by decide) ?_
              refine WL.skip (unwanted_some (by rfl) (by rfl) (by rfl) (by rfl)) (by rfl) (by decide) ?_
              refine WL.skip (unwanted_some (by rfl) (by rfl) (by rfl) (by rfl)) (by rfl) (by decide) ?_
              refine WL.skip (unwanted_some (by rfl) (by rfl) (by rfl) (by rfl)) (by rfl) (by decide) ?_
              refine WL.skip (unwanted_some (by rfl) (by rfl) (by rfl) (by rfl)) (by rfl) (by decide) ?_
              refine WL.yld (wanted_plain (by rfl)) (yld_pick_false (by rfl) (by rfl)) (by rfl) (by decide) ?_
              refine WL.done ?_
              refine WK.cond (by rfl) (fun h => by cases h) (fun _ => ?_)
              refine WK.skip ?_
              refine WK.endBlock ?_
              refine WK.region ?_
              refine WL.yld (wanted_plain (by rfl)) (yld_move (by rfl)) (by rfl) (by decide) ?_
              refine WL.yld (wanted_plain (by rfl)) (yld_add (by rfl) (by rfl) (by first | exact w64 (by omega) (by omega) | rfl)) (by rfl) (by decide) ?_
              refine WL.yld (wanted_plain (by rfl)) (yld_assign (by rfl)) (by rfl) (by decide) ?_
              refine WL.done ?_
              refine WK.sat (fun w s => Sat.rdShut ⟨ad, len, cap⟩ (s.sel (As := rdL q [] 3 ⟨ad, len, cap⟩) (by dsimp only [rdL]; exact (by repeat (first | exact SelL.nil | exact SelL.self | apply SelL.cons | exact Sel.here | apply Sel.there | apply SelL.skip))))) ?_
              exact WK.next hN (i + 1, _, [], 3) ⟨by dsimp only; omega, .inr ⟨by simp [failE], by rw [hu]; rfl⟩⟩ (by simp [failE]) (by repeat (first | exact KK.nil | refine KK.cons (by first | rfl | (simp; done)) ?_)) (by repeat (first | exact SelL.nil | exact SelL.self | apply SelL.cons | exact Sel.here | apply Sel.there | apply SelL.skip))
        · skip
          have hc24 := of_decide_eq_false hc24
          refine WL.skip (unwanted_some (by rfl) (by rfl) (by rfl) (by rfl)) (by rfl) (by decide) ?_
          refine WL.skip (unwanted_some (by rfl) (by rfl) (by rfl) (by rfl)) (by rfl) (by decide) ?_
          refine WL.yld (wanted_some (by rfl) (by rfl) (by rfl)) (yld_pick_false (by rfl) (by rfl)) (by rfl) (by decide) ?_
          refine WL.yld (wanted_plain (by rfl)) (yld_pick_false (by rfl) (by rfl)) (by rfl) (by decide) ?_
          refine WL.done ?_
          refine WK.cond (by rfl) (fun h => by cases h) (fun _ => ?_)
          refine WK.skip ?_
          refine WK.seq ?_
          refine WK.region ?_
          refine WL.yld (wanted_plain (by rfl)) (yld_move (by rfl)) (by rfl) (by decide) ?_
          refine WL.yld (wanted_plain (by rfl)) (yld_move (by rfl)) (by rfl) (by decide) ?_
          refine WL.yld (wanted_plain (by rfl)) (yld_andNot (by rfl) (by rfl) (by rfl)) (by rfl) (by decide) ?_
          refine WL.yld (wanted_plain (by rfl)) (yld_convInt (by rfl) (by exact Try.runUnderlying5) (by exact Try.runUnderlying75) (by rfl)) (by rfl) (by decide) ?_
          refine WL.yld (wanted_plain (by rfl)) (yld_move (by rfl)) (by rfl) (by decide) ?_
          refine WL.yld (wanted_plain (by rfl)) (yld_mul (by rfl) (by rfl) (by first | exact w64 (by omega) (by omega) | rfl)) (by rfl) (by decide) ?_
          refine WL.yld (wanted_plain (by rfl)) (yld_shl (by rfl) (by rfl) (by omega) (by rfl)) (by rfl) (by decide) ?_
          refine WL.yld (wanted_plain (by rfl)) (yld_or (by rfl) (by rfl) (by rfl)) (by rfl) (by decide) ?_
          refine WL.yld (wanted_plain (by rfl)) (yld_assign (by rfl)) (by rfl) (by decide) ?_
          refine WL.done ?_
          refine WK.seq ?_
          refine WK.openS (fun w s => Sat.rdOpen (s.sel1 (A := rdR q [] 3) (by repeat (first | exact .here | apply Sel.there)))) ?_
          rintro ⟨ad, len, cap⟩ -
          dsimp only [rdL, List.cons_append, List.nil_append]
          refine WK.region ?_
          refine WL.yld (wanted_plain (by rfl)) (yld_move (by rfl)) (by rfl) (by decide) ?_
          refine WL.yld (wanted_plain (by rfl)) (yld_lss (by rfl) (by rfl)) (by rfl) (by decide) ?_
          refine WL.yld (wanted_plain (by rfl)) (yld_move (by rfl)) (by rfl) (by decide) ?_
          refine WL.split (d := 41) (by rfl) (fun hc41 => ?_) (fun hc41 => ?_)
          · skip
            have hc41 := of_decide_eq_true hc41
            refine WL.yld (wanted_some (by rfl) (by rfl) (by rfl)) (yld_move (by rfl)) (by rfl) (by decide) ?_
            refine WL.yld (wanted_some (by rfl) (by rfl) (by rfl)) (yld_nilCheck (by rfl)) (by rfl) (by decide) ?_
            refine WL.yld (wanted_some (by rfl) (by rfl) (by rfl)) (yld_fieldAddr (by rfl) (by exact Try.runUnderlying101) (by rfl) (by exact Try.sizeOf32) (by rfl) (by rfl)) (by rfl) (by decide) ?_
            refine WL.yld (wanted_some (by rfl) (by rfl) (by rfl)) (yld_load (by rfl) (by exact Try.isAgg32) (by repeat (first | exact .here | apply Sel.there)) (by rfl)) (by rfl) (by decide) ?_
            refine WL.yld (wanted_some (by rfl) (by rfl) (by rfl)) (yld_eql (by rfl) (by rfl)) (by rfl) (by decide) ?_
            refine WL.yld (wanted_plain (by rfl)) (yld_pick_true (by rfl) (by rfl)) (by rfl) (by decide) ?_
            refine WL.done ?_
            refine WK.cond (by rfl) (fun hc47 => ?_) (fun hc47 => ?_)
            · skip
              have hc47 := of_decide_eq_true hc47
              simp [failE] at hc47
            · skip
              have hc47 := of_decide_eq_false hc47
              refine WK.skip ?_
              refine WK.endBlock ?_
              refine WK.region ?_
              refine WL.yld (wanted_plain (by rfl)) (yld_move (by rfl)) (by rfl) (by decide) ?_
              refine WL.yld (wanted_plain (by rfl)) (yld_add (by rfl) (by rfl) (by first | exact w64 (by omega) (by omega) | rfl)) (by rfl) (by decide) ?_
              refine WL.yld (wanted_plain (by rfl)) (yld_assign (by rfl)) (by rfl) (by decide) ?_
              refine WL.done ?_
              refine WK.sat (fun w s => Sat.rdShut ⟨ad, len, cap⟩ (s.sel (As := rdL q [] 3 ⟨ad, len, cap⟩) (by dsimp only [rdL]; exact (by repeat (first | exact SelL.nil | exact SelL.self | apply SelL.cons | exact Sel.here | apply Sel.there | apply SelL.skip))))) ?_
              exact WK.next hN (i + 1, _, [], 3) ⟨by dsimp only; omega, .inr ⟨by simp [failE], by rw [hu]; rfl⟩⟩ (by simp [failE]) (by repeat (first | exact KK.nil | refine KK.cons (by first | rfl | (simp; done)) ?_)) (by repeat (first | exact SelL.nil | exact SelL.self | apply SelL.cons | exact Sel.here | apply Sel.there | apply SelL.skip))
          · skip
            have hc41 := of_decide_eq_false hc41
            refine WL.skip (unwanted_some (by rfl) (by rfl) (by rfl) (by rfl)) (by rfl) (by decide) ?_
            refine WL.skip (unwanted_some (by rfl) (by rfl) (by rfl) (by rfl)) (by rfl) (by decide) ?_
            refine WL.skip (unwanted_some (by rfl) (by rfl) (by rfl) (by rfl)) (by rfl) (by decide) ?_
            refine WL.skip (unwanted_some (by rfl) (by rfl) (by rfl) (by rfl)) (by rfl) (by decide) ?_
            refine WL.skip (unwanted_some (by rfl) (by rfl) (by rfl) (by rfl)) (by rfl) (by decide) ?_
            refine WL.yld (wanted_plain (by rfl)) (yld_pick_false (by rfl) (by rfl)) (by rfl) (by decide) ?_
            refine WL.done ?_
            refine WK.cond (by rfl) (fun h => by cases h) (fun _ => ?_)
            refine WK.skip ?_
            refine WK.endBlock ?_
            refine WK.region ?_
            refine WL.yld (wanted_plain (by rfl)) (yld_move (by rfl)) (by rfl) (by decide) ?_
            refine WL.yld (wanted_plain (by rfl)) (yld_add (by rfl) (by rfl) (by first | exact w64 (by omega) (by omega) | rfl)) (by rfl) (by decide) ?_
            refine WL.yld (wanted_plain (by rfl)) (yld_assign (by rfl)) (by rfl) (by decide) ?_
            refine WL.done ?_
            refine WK.sat (fun w s => Sat.rdShut ⟨ad, len, cap⟩ (s.sel (As := rdL q [] 3 ⟨ad, len, cap⟩) (by dsimp only [rdL]; exact (by repeat (first | exact SelL.nil | exact SelL.self | apply SelL.cons | exact Sel.here | apply Sel.there | apply SelL.skip))))) ?_
            exact WK.next hN (i + 1, _, [], 3) ⟨by dsimp only; omega, .inr ⟨by simp [failE], by rw [hu]; rfl⟩⟩ (by simp [failE]) (by repeat (first | exact KK.nil | refine KK.cons (by first | rfl | (simp; done)) ?_)) (by repeat (first | exact SelL.nil | exact SelL.self | apply SelL.cons | exact Sel.here | apply Sel.there | apply SelL.skip))
    · skip
      rw [show nextM (b :: tl) 0 = (b, tl, 0) from rfl]
      dsimp only
      have hb8 : b.toNat < 256 := b.toNat_lt
      refine WL.yld (wanted_plain (by rfl)) (yld_move (by rfl)) (by rfl) (by decide) ?_
      refine WL.yld (wanted_plain (by rfl)) (yld_eql (by rfl) (by rfl)) (by rfl) (by decide) ?_
      refine WL.yld (wanted_plain (by rfl)) (yld_move (by rfl)) (by rfl) (by decide) ?_
      refine WL.split (d := 17) (by rfl) (fun hc17 => ?_) (fun hc17 => ?_)
      · skip
        have hc17 := of_decide_eq_true hc17
        refine WL.yld (wanted_some (by rfl) (by rfl) (by rfl)) (yld_move (by rfl)) (by rfl) (by decide) ?_
        refine WL.yld (wanted_some (by rfl) (by rfl) (by rfl)) (yld_gtr (by rfl) (by rfl)) (by rfl) (by decide) ?_
        refine WL.yld (wanted_plain (by rfl)) (yld_pick_true (by rfl) (by rfl)) (by rfl) (by decide) ?_
        refine WL.yld (wanted_plain (by rfl)) (yld_move (by rfl)) (by rfl) (by decide) ?_
        refine WL.split (d := 21) (by rfl) (fun hc21 => ?_) (fun hc21 => ?_)
        · skip
          have hc21 := of_decide_eq_true hc21
          refine WL.skip (unwanted_some (by rfl) (by rfl) (by rfl) (by rfl)) (by rfl) (by decide) ?_
          refine WL.skip (unwanted_some (by rfl) (by rfl) (by rfl) (by rfl)) (by rfl) (by decide) ?_
          refine WL.skip (unwanted_some (by rfl) (by rfl) (by rfl) (by rfl)) (by rfl) (by decide) ?_
          refine WL.skip (unwanted_undef (by rfl) (by rfl) (by rfl)) (by rfl) (by decide) ?_
          refine WL.skip (unwanted_undef (by rfl) (by rfl) (by rfl)) (by rfl) (by decide) ?_
          refine WL.skip (unwanted_some (by rfl) (by rfl) (by rfl) (by rfl)) (by rfl) (by decide) ?_
          refine WL.yld (wanted_plain (by rfl)) (yld_pick_true (by rfl) (by rfl)) (by rfl) (by decide) ?_
          refine WL.done ?_
          refine WK.cond (by rfl) (fun _ => ?_) (fun h => by cases h)
          refine WK.region ?_
          refine WL.yld (wanted_plain (by rfl)) (yld_move (by rfl)) (by rfl) (by decide) ?_
          refine WL.eff (wanted_plain (by rfl)) (eff_call (by exact Try.call61) (by repeat (first | exact Evs.nil | apply Evs.cons | rfl)) (by repeat (first | exact SelL.nil | exact SelL.self | apply SelL.cons | exact Sel.here | apply Sel.there | apply SelL.skip)) (rdFail_spec q tl 0 2)) (by rfl) (by decide) ?_
          rintro _ -
          try dsimp only
          refine WL.done ?_
          refine WK.seq ?_
          refine WK.region ?_
          refine WL.yld (wanted_plain (by rfl)) (yld_move (by rfl)) (by rfl) (by decide) ?_
          refine WL.yld (wanted_plain (by rfl)) (yld_move (by rfl)) (by rfl) (by decide) ?_
          refine WL.yld (wanted_plain (by rfl)) (yld_andNot (by rfl) (by rfl) (by exact bAndNot_more b.toNat hb8)) (by rfl) (by decide) ?_
          refine WL.yld (wanted_plain (by rfl)) (yld_convInt (by rfl) (by exact Try.runUnderlying5) (by exact Try.runUnderlying75) (show IntKind.u64.wrap ((b.toNat % 128 : Nat) : Int) = ((b.toNat % 128 : Nat) : Int) from by rw [u64wrap]; congr 1; omega)) (by rfl) (by decide) ?_
          refine WL.yld (wanted_plain (by rfl)) (yld_move (by rfl)) (by rfl) (by decide) ?_
          refine WL.yld (wanted_plain (by rfl)) (yld_mul (by rfl) (by rfl) (by first | exact w64 (by omega) (by omega) | rfl)) (by rfl) (by decide) ?_
          refine WL.yld (wanted_plain (by rfl)) (yld_shl (by rfl) (by rfl) (by omega) (by rfl)) (by rfl) (by decide) ?_
          refine WL.yld (wanted_plain (by rfl)) (yld_or (by rfl) (by rfl) (by rfl)) (by rfl) (by decide) ?_
          refine WL.yld (wanted_plain (by rfl)) (yld_assign (by rfl)) (by rfl) (by decide) ?_
          refine WL.done ?_
          refine WK.seq ?_
          refine WK.openS (fun w s => Sat.rdOpen (s.sel1 (A := rdR q tl (failE 0 2)) (by repeat (first | exact .here | apply Sel.there)))) ?_
          rintro ⟨ad, len, cap⟩ -
          dsimp only [rdL, List.cons_append, List.nil_append]
          refine WK.region ?_
          refine WL.yld (wanted_plain (by rfl)) (yld_move (by rfl)) (by rfl) (by decide) ?_
          refine WL.yld (wanted_plain (by rfl)) (yld_lss (by rfl) (by rfl)) (by rfl) (by decide) ?_
          refine WL.yld (wanted_plain (by rfl)) (yld_move (by rfl)) (by rfl) (by decide) ?_
          refine WL.split (d := 41) (by rfl) (fun hc41 => ?_) (fun hc41 => ?_)
          · skip
            have hc41 := of_decide_eq_true hc41
            refine WL.yld (wanted_some (by rfl) (by rfl) (by rfl)) (yld_move (by rfl)) (by rfl) (by decide) ?_
            refine WL.yld (wanted_some (by rfl) (by rfl) (by rfl)) (yld_nilCheck (by rfl)) (by rfl) (by decide) ?_
            refine WL.yld (wanted_some (by rfl) (by rfl) (by rfl)) (yld_fieldAddr (by rfl) (by exact Try.runUnderlying101) (by rfl) (by exact Try.sizeOf32) (by rfl) (by rfl)) (by rfl) (by decide) ?_
            refine WL.yld (wanted_some (by rfl) (by rfl) (by rfl)) (yld_load (by rfl) (by exact Try.isAgg32) (by repeat (first | exact .here | apply Sel.there)) (by rfl)) (by rfl) (by decide) ?_
            refine WL.yld (wanted_some (by rfl) (by rfl) (by rfl)) (yld_eql (by rfl) (by rfl)) (by rfl) (by decide) ?_
            refine WL.yld (wanted_plain (by rfl)) (yld_pick_true (by rfl) (by rfl)) (by rfl) (by decide) ?_
            refine WL.done ?_
            refine WK.cond (by rfl) (fun hc47 => ?_) (fun hc47 => ?_)
            · skip
              have hc47 := of_decide_eq_true hc47
              simp [failE] at hc47
            · skip
              have hc47 := of_decide_eq_false hc47
              refine WK.skip ?_
              refine WK.endBlock ?_
              refine WK.region ?_
              refine WL.yld (wanted_plain (by rfl)) (yld_move (by rfl)) (by rfl) (by decide) ?_
              refine WL.yld (wanted_plain (by rfl)) (yld_add (by rfl) (by rfl) (by first | exact w64 (by omega) (by omega) | rfl)) (by rfl) (by decide) ?_
              refine WL.yld (wanted_plain (by rfl)) (yld_assign (by rfl)) (by rfl) (by decide) ?_
              refine WL.done ?_
              refine WK.sat (fun w s => Sat.rdShut ⟨ad, len, cap⟩ (s.sel (As := rdL q tl (failE 0 2) ⟨ad, len, cap⟩) (by dsimp only [rdL]; exact (by repeat (first | exact SelL.nil | exact SelL.self | apply SelL.cons | exact Sel.here | apply Sel.there | apply SelL.skip))))) ?_
              exact WK.next hN (i + 1, _, tl, (failE 0 2)) ⟨by dsimp only; omega, .inr ⟨by simp [failE], by rw [hu]; unfold uintR; exact if_pos (by omega)⟩⟩ (by simp [failE]) (by repeat (first | exact KK.nil | refine KK.cons (by first | rfl | (simp; done)) ?_)) (by repeat (first | exact SelL.nil | exact SelL.self | apply SelL.cons | exact Sel.here | apply Sel.there | apply SelL.skip))
          · skip
            have hc41 := of_decide_eq_false hc41
            refine WL.skip (unwanted_some (by rfl) (by rfl) (by rfl) (by rfl)) (by rfl) (by decide) ?_
            refine WL.skip (unwanted_some (by rfl) (by rfl) (by rfl) (by rfl)) (by rfl) (by decide) ?_
            refine WL.skip (unwanted_some (by rfl) (by rfl) (by rfl) (by rfl)) (by rfl) (by decide) ?_
            refine WL.skip (unwanted_some (by rfl) (by rfl) (by rfl) (by rfl)) (by rfl) (by decide) ?_
            refine WL.skip (unwanted_some (by rfl) (by rfl) (by rfl) (by rfl)) (by rfl) (by decide) ?_
            refine WL.yld (wanted_plain (by rfl)) (yld_pick_false (by rfl) (by rfl)) (by rfl) (by decide) ?_
            refine WL.done ?_
            refine WK.cond (by rfl) (fun h => by cases h) (fun _ => ?_)
            refine WK.skip ?_
            refine WK.endBlock ?_
            refine WK.region ?_
            refine WL.yld (wanted_plain (by rfl)) (yld_move (by rfl)) (by rfl) (by decide) ?_
            refine WL.yld (wanted_plain (by rfl)) (yld_add (by rfl) (by rfl) (by first | exact w64 (by omega) (by omega) | rfl)) (by rfl) (by decide) ?_
            refine WL.yld (wanted_plain (by rfl)) (yld_assign (by rfl)) (by rfl) (by decide) ?_
            refine WL.done ?_
            refine WK.sat (fun w s => Sat.rdShut ⟨ad, len, cap⟩ (s.sel (As := rdL q tl (failE 0 2) ⟨ad, len, cap⟩) (by dsimp only [rdL]; exact (by repeat (first | exact SelL.nil | exact SelL.self | apply SelL.cons | exact Sel.here | apply Sel.there | apply SelL.skip))))) ?_
            exact WK.next hN (i + 1, _, tl, (failE 0 2)) ⟨by dsimp only; omega, .inr ⟨by simp [failE], by rw [hu]; unfold uintR; exact if_pos (by omega)⟩⟩ (by simp [failE]) (by repeat (first | exact KK.nil | refine KK.cons (by first | rfl | (simp; done)) ?_)) (by repeat (first | exact SelL.nil | exact SelL.self | apply SelL.cons | exact Sel.here | apply Sel.there | apply SelL.skip))
        · skip
          have hc21 := of_decide_eq_false hc21
          refine WL.yld (wanted_some (by rfl) (by rfl) (by rfl)) (yld_move (by rfl)) (by rfl) (by decide) ?_
          refine WL.yld (wanted_some (by rfl) (by rfl) (by rfl)) (yld_gtr (by rfl) (by rfl)) (by rfl) (by decide) ?_
          refine WL.yld (wanted_some (by rfl) (by rfl) (by rfl)) (yld_move (by rfl)) (by rfl) (by decide) ?_
          refine WL.split (d := 24) (by rfl) (fun hc24 => ?_) (fun hc24 => ?_)
          · skip
            have hc24 := of_decide_eq_true hc24
            refine WL.yld (wanted_some (by rfl) (by rfl) (by rfl)) (yld_move (by rfl)) (by rfl) (by decide) ?_
            refine WL.yld (wanted_some (by rfl) (by rfl) (by rfl)) (yld_eql (by rfl) (by rfl)) (by rfl) (by decide) ?_
            refine WL.yld (wanted_some (by rfl) (by rfl) (by rfl)) (yld_pick_true (by rfl) (by rfl)) (by rfl) (by decide) ?_
            refine WL.yld (wanted_plain (by rfl)) (yld_pick_false (by rfl) (by rfl)) (by rfl) (by decide) ?_
            refine WL.done ?_
            refine WK.cond (by rfl) (fun hc28 => ?_) (fun hc28 => ?_)
            · skip
              have hc28 := of_decide_eq_true hc28
              refine WK.region ?_
              refine WL.yld (wanted_plain (by rfl)) (yld_move (by rfl)) (by rfl) (by decide) ?_
              refine WL.eff (wanted_plain (by rfl)) (eff_call (by exact Try.call61) (by repeat (first | exact Evs.nil | apply Evs.cons | rfl)) (by repeat (first | exact SelL.nil | exact SelL.self | apply SelL.cons | exact Sel.here | apply Sel.there | apply SelL.skip)) (rdFail_spec q tl 0 2)) (by rfl) (by decide) ?_
              rintro _ -
              try dsimp only
              refine WL.done ?_
              refine WK.seq ?_
              refine WK.region ?_
              refine WL.yld (wanted_plain (by rfl)) (yld_move (by rfl)) (by rfl) (by decide) ?_
              refine WL.yld (wanted_plain (by rfl)) (yld_move (by rfl)) (by rfl) (by decide) ?_
              refine WL.yld (wanted_plain (by rfl)) (yld_andNot (by rfl) (by rfl) (by exact bAndNot_more b.toNat hb8)) (by rfl) (by decide) ?_
              refine WL.yld (wanted_plain (by rfl)) (yld_convInt (by rfl) (by exact Try.runUnderlying5) (by exact Try.runUnderlying75) (show IntKind.u64.wrap ((b.toNat % 128 : Nat) : Int) = ((b.toNat % 128 : Nat) : Int) from by rw [u64wrap]; congr 1; omega)) (by rfl) (by decide) ?_
              refine WL.yld (wanted_plain (by rfl)) (yld_move (by rfl)) (by rfl) (by decide) ?_
              refine WL.yld (wanted_plain (by rfl)) (yld_mul (by rfl) (by rfl) (by first | exact w64 (by omega) (by omega) | rfl)) (by rfl) (by decide) ?_
              refine WL.yld (wanted_plain (by rfl)) (yld_shl (by rfl) (by rfl) (by omega) (by rfl)) (by rfl) (by decide) ?_
              refine WL.yld (wanted_plain (by rfl)) (yld_or (by rfl) (by rfl) (by rfl)) (by rfl) (by decide) ?_
              refine WL.yld (wanted_plain (by rfl)) (yld_assign (by rfl)) (by rfl) (by decide) ?_
              refine WL.done ?_
              refine WK.seq ?_
              refine WK.openS (fun w s => Sat.rdOpen (s.sel1 (A := rdR q tl (failE 0 2)) (by repeat (first | exact .here | apply Sel.there)))) ?_
              rintro ⟨ad, len, cap⟩ -
              dsimp only [rdL, List.cons_append, List.nil_append]
              refine WK.region ?_
              refine WL.yld (wanted_plain (by rfl)) (yld_move (by rfl)) (by rfl) (by decide) ?_
              refine WL.yld (wanted_plain (by rfl)) (yld_lss (by rfl) (by rfl)) (by rfl) (by decide) ?_
              refine WL.yld (wanted_plain (by rfl)) (yld_move (by rfl)) (by rfl) (by decide) ?_
              refine WL.split (d := 41) (by rfl) (fun hc41 => ?_) (fun hc41 => ?_)
              · skip
                have hc41 := of_decide_eq_true hc41
                refine WL.yld (wanted_some (by rfl) (by rfl) (by rfl)) (yld_move (by rfl)) (by rfl) (by decide) ?_
                refine WL.yld (wanted_some (by rfl) (by rfl) (by rfl)) (yld_nilCheck (by rfl)) (by rfl) (by decide) ?_
                refine WL.yld (wanted_some (by rfl) (by rfl) (by rfl)) (yld_fieldAddr (by rfl) (by exact Try.runUnderlying101) (by rfl) (by exact Try.sizeOf32) (by rfl) (by rfl)) (by rfl) (by decide) ?_
                refine WL.yld (wanted_some (by rfl) (by rfl) (by rfl)) (yld_load (by rfl) (by exact Try.isAgg32) (by repeat (first | exact .here | apply Sel.there)) (by rfl)) (by rfl) (by decide) ?_
                refine WL.yld (wanted_some (by rfl) (by rfl) (by rfl)) (yld_eql (by rfl) (by rfl)) (by rfl) (by decide) ?_
                refine WL.yld (wanted_plain (by rfl)) (yld_pick_true (by rfl) (by rfl)) (by rfl) (by decide) ?_
                refine WL.done ?_
                refine WK.cond (by rfl) (fun hc47 => ?_) (fun hc47 => ?_)
                · skip
                  have hc47 := of_decide_eq_true hc47
                  simp [failE] at hc47
                · skip
                  have hc47 := of_decide_eq_false hc47
                  refine WK.skip ?_
                  refine WK.endBlock ?_
                  refine WK.region ?_
                  refine WL.yld (wanted_plain (by rfl)) (yld_move (by rfl)) (by rfl) (by decide) ?_
                  refine WL.yld (wanted_plain (by rfl)) (yld_add (by rfl) (by rfl) (by first | exact w64 (by omega) (by omega) | rfl)) (by rfl) (by decide) ?_
                  refine WL.yld (wanted_plain (by rfl)) (yld_assign (by rfl)) (by rfl) (by decide) ?_
                  refine WL.done ?_
                  refine WK.sat (fun w s => Sat.rdShut ⟨ad, len, cap⟩ (s.sel (As := rdL q tl (failE 0 2) ⟨ad, len, cap⟩) (by dsimp only [rdL]; exact (by repeat (first | exact SelL.nil | exact SelL.self | apply SelL.cons | exact Sel.here | apply Sel.there | apply SelL.skip))))) ?_
                  exact WK.next hN (i + 1, _, tl, (failE 0 2)) ⟨by dsimp only; omega, .inr ⟨by simp [failE], by rw [hu]; unfold uintR; exact if_pos (by omega)⟩⟩ (by simp [failE]) (by repeat (first | exact KK.nil | refine KK.cons (by first | rfl | (simp; done)) ?_)) (by repeat (first | exact SelL.nil | exact SelL.self | apply SelL.cons | exact Sel.here | apply Sel.there | apply SelL.skip))
              · skip
                have hc41 := of_decide_eq_false hc41
                refine WL.skip (unwanted_some (by rfl) (by rfl) (by rfl) (by rfl)) (by rfl) (by decide) ?_
                refine WL.skip (unwanted_some (by rfl) (by rfl) (by rfl) (by rfl)) (by rfl) (by decide) ?_
                refine WL.skip (unwanted_some (by rfl) (by rfl) (by rfl) (by rfl)) (by rfl) (by decide) ?_
                refine WL.skip (unwanted_some (by rfl) (by rfl) (by rfl) (by rfl)) (by rfl) (by decide) ?_
                refine WL.skip (unwanted_some (by rfl) (by rfl) (by rfl) (by rfl)) (by rfl) (by decide) ?_
                refine WL.yld (wanted_plain (by rfl)) (yld_pick_false (by rfl) (by rfl)) (by rfl) (by decide) ?_
                refine WL.done ?_
                refine WK.cond (by rfl) (fun h => by cases h) (fun _ => ?_)
                refine WK.skip ?_
                refine WK.endBlock ?_
                refine WK.region ?_
                refine WL.yld (wanted_plain (by rfl)) (yld_move (by rfl)) (by rfl) (by decide) ?_
                refine WL.yld (wanted_plain (by rfl)) (yld_add (by rfl) (by rfl) (by first | exact w64 (by omega) (by omega) | rfl)) (by rfl) (by decide) ?_
                refine WL.yld (wanted_plain (by rfl)) (yld_assign (by rfl)) (by rfl) (by decide) ?_
                refine WL.done ?_
                refine WK.sat (fun w s => Sat.rdShut ⟨ad, len, cap⟩ (s.sel (As := rdL q tl (failE 0 2) ⟨ad, len, cap⟩) (by dsimp only [rdL]; exact (by repeat (first | exact SelL.nil | exact SelL.self | apply SelL.cons | exact Sel.here | apply Sel.there | apply SelL.skip))))) ?_
                exact WK.next hN (i + 1, _, tl, (failE 0 2)) ⟨by dsimp only; omega, .inr ⟨by simp [failE], by rw [hu]; unfold uintR; exact if_pos (by omega)⟩⟩ (by simp [failE]) (by repeat (first | exact KK.nil | refine KK.cons (by first | rfl | (simp; done)) ?_)) (by repeat (first | exact SelL.nil | exact SelL.self | apply SelL.cons | exact Sel.here | apply Sel.there | apply SelL.skip))
            · skip
              have hc28 := of_decide_eq_false hc28
              refine WK.skip ?_
              refine WK.seq ?_
              refine WK.region ?_
              refine WL.yld (wanted_plain (by rfl)) (yld_move (by rfl)) (by rfl) (by decide) ?_
              refine WL.yld (wanted_plain (by rfl)) (yld_move (by rfl)) (by rfl) (by decide) ?_
              refine WL.yld (wanted_plain (by rfl)) (yld_andNot (by rfl) (by rfl) (by exact bAndNot_more b.toNat hb8)) (by rfl) (by decide) ?_
              refine WL.yld (wanted_plain (by rfl)) (yld_convInt (by rfl) (by exact Try.runUnderlying5) (by exact Try.runUnderlying75) (show IntKind.u64.wrap ((b.toNat % 128 : Nat) : Int) = ((b.toNat % 128 : Nat) : Int) from by rw [u64wrap]; congr 1; omega)) (by rfl) (by decide) ?_
              refine WL.yld (wanted_plain (by rfl)) (yld_move (by rfl)) (by rfl) (by decide) ?_
              refine WL.yld (wanted_plain (by rfl)) (yld_mul (by rfl) (by rfl) (by first | exact w64 (by omega) (by omega) | rfl)) (by rfl) (by decide) ?_
              refine WL.yld (wanted_plain (by rfl)) (yld_shl (by rfl) (by rfl) (by omega) (by rfl)) (by rfl) (by decide) ?_
              refine WL.yld (wanted_plain (by rfl)) (yld_or (by rfl) (by rfl) (by exact orBits (b := b.toNat) hi9 hn (by omega))) (by rfl) (by decide) ?_
              refine WL.yld (wanted_plain (by rfl)) (yld_assign (by rfl)) (by rfl) (by decide) ?_
              refine WL.done ?_
              refine WK.seq ?_
              refine WK.openS (fun w s => Sat.rdOpen (s.sel1 (A := rdR q tl 0) (by repeat (first | exact .here | apply Sel.there)))) ?_
              rintro ⟨ad, len, cap⟩ -
              dsimp only [rdL, List.cons_append, List.nil_append]
              refine WK.region ?_
              refine WL.yld (wanted_plain (by rfl)) (yld_move (by rfl)) (by rfl) (by decide) ?_
              refine WL.yld (wanted_plain (by rfl)) (yld_lss (by rfl) (by rfl)) (by rfl) (by decide) ?_
              refine WL.yld (wanted_plain (by rfl)) (yld_move (by rfl)) (by rfl) (by decide) ?_
              refine WL.split (d := 41) (by rfl) (fun hc41 => ?_) (fun hc41 => ?_)
              · skip
                have hc41 := of_decide_eq_true hc41
                refine WL.yld (wanted_some (by rfl) (by rfl) (by rfl)) (yld_move (by rfl)) (by rfl) (by decide) ?_
                refine WL.yld (wanted_some (by rfl) (by rfl) (by rfl)) (yld_nilCheck (by rfl)) (by rfl) (by decide) ?_
                refine WL.yld (wanted_some (by rfl) (by rfl) (by rfl)) (yld_fieldAddr (by rfl) (by exact Try.runUnderlying101) (by rfl) (by exact Try.sizeOf32) (by rfl) (by rfl)) (by rfl) (by decide) ?_
                refine WL.yld (wanted_some (by rfl) (by rfl) (by rfl)) (yld_load (by rfl) (by exact Try.isAgg32) (by repeat (first | exact .here | apply Sel.there)) (by rfl)) (by rfl) (by decide) ?_
                refine WL.yld (wanted_some (by rfl) (by rfl) (by rfl)) (yld_eql (by rfl) (by rfl)) (by rfl) (by decide) ?_
                refine WL.yld (wanted_plain (by rfl)) (yld_pick_true (by rfl) (by rfl)) (by rfl) (by decide) ?_
                refine WL.done ?_
                refine WK.cond (by rfl) (fun hc47 => ?_) (fun hc47 => ?_)
                · skip
                  have hc47 := of_decide_eq_true hc47
                  refine WK.seq ?_
                  refine WK.region ?_
                  refine WL.yld (wanted_plain (by rfl)) (yld_move (by rfl)) (by rfl) (by decide) ?_
                  refine WL.yld (wanted_plain (by rfl)) (yld_assign (by rfl)) (by rfl) (by decide) ?_
                  refine WL.done ?_
                  refine WK.ret ?_
                  repeat (first | refine RQ.block ?_ | refine RQ.then_ ?_)
                  refine RQ.body (results1 (by rfl) (by rfl)) (fun w s => ?_)
                  have hu2 : uintE bs e = some (n + b.toNat % 128 * 2 ^ (7 * i), tl) := by rw [hu]; unfold uintR; rw [if_neg (by omega), if_pos (by omega), Int.toNat_natCast]
                  refine ⟨(tl, 0), by rw [hu2], by rw [hu2]; rfl, ?_⟩
                  exact Sat.rdShut ⟨ad, len, cap⟩ (s.sel (As := rdL q tl 0 ⟨ad, len, cap⟩) (by dsimp only [rdL]; exact (by repeat (first | exact SelL.nil | exact SelL.self | apply SelL.cons | exact Sel.here | apply Sel.there | apply SelL.skip))))
                · skip
                  have hc47 := of_decide_eq_false hc47
                  refine WK.skip ?_
                  refine WK.endBlock ?_
                  refine WK.region ?_
                  refine WL.yld (wanted_plain (by rfl)) (yld_move (by rfl)) (by rfl) (by decide) ?_
                  refine WL.yld (wanted_plain (by rfl)) (yld_add (by rfl) (by rfl) (by first | exact w64 (by omega) (by omega) | rfl)) (by rfl) (by decide) ?_
                  refine WL.yld (wanted_plain (by rfl)) (yld_assign (by rfl)) (by rfl) (by decide) ?_
                  refine WL.done ?_
                  refine WK.sat (fun w s => Sat.rdShut ⟨ad, len, cap⟩ (s.sel (As := rdL q tl 0 ⟨ad, len, cap⟩) (by dsimp only [rdL]; exact (by repeat (first | exact SelL.nil | exact SelL.self | apply SelL.cons | exact Sel.here | apply Sel.there | apply SelL.skip))))) ?_
                  have hs := shl_or (c := b.toNat % 128) hi9 hn (by omega) (by omega)
                  exact WK.next hN (i + 1, _, tl, 0) ⟨by dsimp only; omega, .inl ⟨rfl, by rw [hu, Int.toNat_natCast, uintR_more (by omega) (by omega)]; dsimp only; rw [Int.toNat_natCast], by dsimp only; omega, _, rfl, hs.1⟩⟩ (by simp) (by repeat (first | exact KK.nil | refine KK.cons (by first | rfl | (simp; done)) ?_)) (by repeat (first | exact SelL.nil | exact SelL.self | apply SelL.cons | exact Sel.here | apply Sel.there | apply SelL.skip))
              · skip
                have hc41 := of_decide_eq_false hc41
                refine WL.skip (unwanted_some (by rfl) (by rfl) (by rfl) (by rfl)) (by rfl) (by decide) ?_
                refine WL.skip (unwanted_some (by rfl) (by rfl) (by rfl) (by rfl)) (by rfl) (by decide) ?_
                refine WL.skip (unwanted_some (by rfl) (by rfl) (by rfl) (by rfl)) (by rfl) (by decide) ?_
                refine WL.skip (unwanted_some (by rfl) (by rfl) (by rfl) (by rfl)) (by rfl) (by decide) ?_
                refine WL.skip (unwanted_some (by rfl) (by rfl) (by rfl) (by rfl)) (by rfl) (by decide) ?_
                refine WL.yld (wanted_plain (by rfl)) (yld_pick_false (by rfl) (by rfl)) (by rfl) (by decide) ?_
                refine WL.done ?_
                refine WK.cond (by rfl) (fun h => by cases h) (fun _ => ?_)
                refine WK.skip ?_
                refine WK.endBlock ?_
                refine WK.region ?_
                refine WL.yld (wanted_plain (by rfl)) (yld_move (by rfl)) (by rfl) (by decide) ?_
                refine WL.yld (wanted_plain (by rfl)) (yld_add (by rfl) (by rfl) (by first | exact w64 (by omega) (by omega) | rfl)) (by rfl) (by decide) ?_
                refine WL.yld (wanted_plain (by rfl)) (yld_assign (by rfl)) (by rfl) (by decide) ?_
                refine WL.done ?_
                refine WK.sat (fun w s => Sat.rdShut ⟨ad, len, cap⟩ (s.sel (As := rdL q tl 0 ⟨ad, len, cap⟩) (by dsimp only [rdL]; exact (by repeat (first | exact SelL.nil | exact SelL.self | apply SelL.cons | exact Sel.here | apply Sel.there | apply SelL.skip))))) ?_
                have hs := shl_or (c := b.toNat % 128) hi9 hn (by omega) (by omega)
                exact WK.next hN (i + 1, _, tl, 0) ⟨by dsimp only; omega, .inl ⟨rfl, by rw [hu, Int.toNat_natCast, uintR_more (by omega) (by omega)]; dsimp only; rw [Int.toNat_natCast], by dsimp only; omega, _, rfl, hs.1⟩⟩ (by simp) (by repeat (first | exact KK.nil | refine KK.cons (by first | rfl | (simp; done)) ?_)) (by repeat (first | exact SelL.nil | exact SelL.self | apply SelL.cons | exact Sel.here | apply Sel.there | apply SelL.skip))
          · skip
            have hc24 := of_decide_eq_false hc24
            refine WL.skip (unwanted_some (by rfl) (by rfl) (by rfl) (by rfl)) (by rfl) (by decide) ?_
            refine WL.skip (unwanted_some (by rfl) (by rfl) (by rfl) (by rfl)) (by rfl) (by decide) ?_
            refine WL.yld (wanted_some (by rfl) (by rfl) (by rfl)) (yld_pick_false (by rfl) (by rfl)) (by rfl) (by decide) ?_
            refine WL.yld (wanted_plain (by rfl)) (yld_pick_false (by rfl) (by rfl)) (by rfl) (by decide) ?_
            refine WL.done ?_
            refine WK.cond (by rfl) (fun h => by cases h) (fun _ => ?_)
            refine WK.skip ?_
            refine WK.seq ?_
            refine WK.region ?_
            refine WL.yld (wanted_plain (by rfl)) (yld_move (by rfl)) (by rfl) (by decide) ?_
            refine WL.yld (wanted_plain (by rfl)) (yld_move (by rfl)) (by rfl) (by decide) ?_
            refine WL.yld (wanted_plain (by rfl)) (yld_andNot (by rfl) (by rfl) (by exact bAndNot_more b.toNat hb8)) (by rfl) (by decide) ?_
            refine WL.yld (wanted_plain (by rfl)) (yld_convInt (by rfl) (by exact Try.runUnderlying5) (by exact Try.runUnderlying75) (show IntKind.u64.wrap ((b.toNat % 128 : Nat) : Int) = ((b.toNat % 128 : Nat) : Int) from by rw [u64wrap]; congr 1; omega)) (by rfl) (by decide) ?_
            refine WL.yld (wanted_plain (by rfl)) (yld_move (by rfl)) (by rfl) (by decide) ?_
            refine WL.yld (wanted_plain (by rfl)) (yld_mul (by rfl) (by rfl) (by first | exact w64 (by omega) (by omega) | rfl)) (by rfl) (by decide) ?_
            refine WL.yld (wanted_plain (by rfl)) (yld_shl (by rfl) (by rfl) (by omega) (by rfl)) (by rfl) (by decide) ?_
            refine WL.yld (wanted_plain (by rfl)) (yld_or (by rfl) (by rfl) (by exact orBits (b := b.toNat) hi9 hn (by omega))) (by rfl) (by decide) ?_
            refine WL.yld (wanted_plain (by rfl)) (yld_assign (by rfl)) (by rfl) (by decide) ?_
            refine WL.done ?_
            refine WK.seq ?_
            refine WK.openS (fun w s => Sat.rdOpen (s.sel1 (A := rdR q tl 0) (by repeat (first | exact .here | apply Sel.there)))) ?_
            rintro ⟨ad, len, cap⟩ -
            dsimp only [rdL, List.cons_append, List.nil_append]
            refine WK.region ?_
            refine WL.yld (wanted_plain (by rfl)) (yld_move (by rfl)) (by rfl) (by decide) ?_
            refine WL.yld (wanted_plain (by rfl)) (yld_lss (by rfl) (by rfl)) (by rfl) (by decide) ?_
            refine WL.yld (wanted_plain (by rfl)) (yld_move (by rfl)) (by rfl) (by decide) ?_
            refine WL.split (d := 41) (by rfl) (fun hc41 => ?_) (fun hc41 => ?_)
            · skip
              have hc41 := of_decide_eq_true hc41
              refine WL.yld (wanted_some (by rfl) (by rfl) (by rfl)) (yld_move (by rfl)) (by rfl) (by decide) ?_
              refine WL.yld (wanted_some (by rfl) (by rfl) (by rfl)) (yld_nilCheck (by rfl)) (by rfl) (by decide) ?_
              refine WL.yld (wanted_some (by rfl) (by rfl) (by rfl)) (yld_fieldAddr (by rfl) (by exact Try.runUnderlying101) (by rfl) (by exact Try.sizeOf32) (by rfl) (by rfl)) (by rfl) (by decide) ?_
              refine WL.yld (wanted_some (by rfl) (by rfl) (by rfl)) (yld_load (by rfl) (by exact Try.isAgg32) (by repeat (first | exact .here | apply Sel.there)) (by rfl)) (by rfl) (by decide) ?_
              refine WL.yld (wanted_some (by rfl) (by rfl) (by rfl)) (yld_eql (by rfl) (by rfl)) (by rfl) (by decide) ?_
              refine WL.yld (wanted_plain (by rfl)) (yld_pick_true (by rfl) (by rfl)) (by rfl) (by decide) ?_
              refine WL.done ?_
              refine WK.cond (by rfl) (fun hc47 => ?_) (fun hc47 => ?_)
              · skip
                have hc47 := of_decide_eq_true hc47
                refine WK.seq ?_
                refine WK.region ?_
                refine WL.yld (wanted_plain (by rfl)) (yld_move (by rfl)) (by rfl) (by decide) ?_
                refine WL.yld (wanted_plain (by rfl)) (yld_assign (by rfl)) (by rfl) (by decide) ?_
                refine WL.done ?_
                refine WK.ret ?_
                repeat (first | refine RQ.block ?_ | refine RQ.then_ ?_)
                refine RQ.body (results1 (by rfl) (by rfl)) (fun w s => ?_)
                have hu2 : uintE bs e = some (n + b.toNat % 128 * 2 ^ (7 * i), tl) := by rw [hu]; unfold uintR; rw [if_neg (by omega), if_pos (by omega), Int.toNat_natCast]
                refine ⟨(tl, 0), by rw [hu2], by rw [hu2]; rfl, ?_⟩
                exact Sat.rdShut ⟨ad, len, cap⟩ (s.sel (As := rdL q tl 0 ⟨ad, len, cap⟩) (by dsimp only [rdL]; exact (by repeat (first | exact SelL.nil | exact SelL.self | apply SelL.cons | exact Sel.here | apply Sel.there | apply SelL.skip))))
              · skip
                have hc47 := of_decide_eq_false hc47
                refine WK.skip ?_
                refine WK.endBlock ?_
                refine WK.region ?_
                refine WL.yld (wanted_plain (by rfl)) (yld_move (by rfl)) (by rfl) (by decide) ?_
                refine WL.yld (wanted_plain (by rfl)) (yld_add (by rfl) (by rfl) (by first | exact w64 (by omega) (by omega) | rfl)) (by rfl) (by decide) ?_
                refine WL.yld (wanted_plain (by rfl)) (yld_assign (by rfl)) (by rfl) (by decide) ?_
                refine WL.done ?_
                refine WK.sat (fun w s => Sat.rdShut ⟨ad, len, cap⟩ (s.sel (As := rdL q tl 0 ⟨ad, len, cap⟩) (by dsimp only [rdL]; exact (by repeat (first | exact SelL.nil | exact SelL.self | apply SelL.cons | exact Sel.here | apply Sel.there | apply SelL.skip))))) ?_
                have hs := shl_or (c := b.toNat % 128) hi9 hn (by omega) (by omega)
                exact WK.next hN (i + 1, _, tl, 0) ⟨by dsimp only; omega, .inl ⟨rfl, by rw [hu, Int.toNat_natCast, uintR_more (by omega) (by omega)]; dsimp only; rw [Int.toNat_natCast], by dsimp only; omega, _, rfl, hs.1⟩⟩ (by simp) (by repeat (first | exact KK.nil | refine KK.cons (by first | rfl | (simp; done)) ?_)) (by repeat (first | exact SelL.nil | exact SelL.self | apply SelL.cons | exact Sel.here | apply Sel.there | apply SelL.skip))
            · skip
              have hc41 := of_decide_eq_false hc41
              refine WL.skip (unwanted_some (by rfl) (by rfl) (by rfl) (by rfl)) (by rfl) (by decide) ?_
              refine WL.skip (unwanted_some (by rfl) (by rfl) (by rfl) (by rfl)) (by rfl) (by decide) ?_
              refine WL.skip (unwanted_some (by rfl) (by rfl) (by rfl) (by rfl)) (by rfl) (by decide) ?_
              refine WL.skip (unwanted_some (by rfl) (by rfl) (by rfl) (by rfl)) (by rfl) (by decide) ?_
              refine WL.skip (unwanted_some (by rfl) (by rfl) (by rfl) (by rfl)) (by rfl) (by decide) ?_
              refine WL.yld (wanted_plain (by rfl)) (yld_pick_false (by rfl) (by rfl)) (by rfl) (by decide) ?_
              refine WL.done ?_
              refine WK.cond (by rfl) (fun h => by cases h) (fun _ => ?_)
              refine WK.skip ?_
              refine WK.endBlock ?_
              refine WK.region ?_
              refine WL.yld (wanted_plain (by rfl)) (yld_move (by rfl)) (by rfl) (by decide) ?_
              refine WL.yld (wanted_plain (by rfl)) (yld_add (by rfl) (by rfl) (by first | exact w64 (by omega) (by omega) | rfl)) (by rfl) (by decide) ?_
              refine WL.yld (wanted_plain (by rfl)) (yld_assign (by rfl)) (by rfl) (by decide) ?_
              refine WL.done ?_
              refine WK.sat (fun w s => Sat.rdShut ⟨ad, len, cap⟩ (s.sel (As := rdL q tl 0 ⟨ad, len, cap⟩) (by dsimp only [rdL]; exact (by repeat (first | exact SelL.nil | exact SelL.self | apply SelL.cons | exact Sel.here | apply Sel.there | apply SelL.skip))))) ?_
              have hs := shl_or (c := b.toNat % 128) hi9 hn (by omega) (by omega)
              exact WK.next hN (i + 1, _, tl, 0) ⟨by dsimp only; omega, .inl ⟨rfl, by rw [hu, Int.toNat_natCast, uintR_more (by omega) (by omega)]; dsimp only; rw [Int.toNat_natCast], by dsimp only; omega, _, rfl, hs.1⟩⟩ (by simp) (by repeat (first | exact KK.nil | refine KK.cons (by first | rfl | (simp; done)) ?_)) (by repeat (first | exact SelL.nil | exact SelL.self | apply SelL.cons | exact Sel.here | apply Sel.there | apply SelL.skip))
      · skip
        have hc17 := of_decide_eq_false hc17
        refine WL.skip (unwanted_some (by rfl) (by rfl) (by rfl) (by rfl)) (by rfl) (by decide) ?_
        refine WL.skip (unwanted_some (by rfl) (by rfl) (by rfl) (by rfl)) (by rfl) (by decide) ?_
        refine WL.yld (wanted_plain (by rfl)) (yld_pick_false (by rfl) (by rfl)) (by rfl) (by decide) ?_
        refine WL.yld (wanted_plain (by rfl)) (yld_move (by rfl)) (by rfl) (by decide) ?_
        refine WL.yld (wanted_some (by rfl) (by rfl) (by rfl)) (yld_move (by rfl)) (by rfl) (by decide) ?_
        refine WL.yld (wanted_some (by rfl) (by rfl) (by rfl)) (yld_gtr (by rfl) (by rfl)) (by rfl) (by decide) ?_
        refine WL.yld (wanted_some (by rfl) (by rfl) (by rfl)) (yld_move (by rfl)) (by rfl) (by decide) ?_
        refine WL.split (d := 24) (by rfl) (fun hc24 => ?_) (fun hc24 => ?_)
        · skip
          have hc24 := of_decide_eq_true hc24
          refine WL.yld (wanted_some (by rfl) (by rfl) (by rfl)) (yld_move (by rfl)) (by rfl) (by decide) ?_
          refine WL.yld (wanted_some (by rfl) (by rfl) (by rfl)) (yld_eql (by rfl) (by rfl)) (by rfl) (by decide) ?_
          refine WL.yld (wanted_some (by rfl) (by rfl) (by rfl)) (yld_pick_true (by rfl) (by rfl)) (by rfl) (by decide) ?_
          refine WL.yld (wanted_plain (by rfl)) (yld_pick_false (by rfl) (by rfl)) (by rfl) (by decide) ?_
          refine WL.done ?_
          refine WK.cond (by rfl) (fun hc28 => ?_) (fun hc28 => ?_)
          · skip
            have hc28 := of_decide_eq_true hc28
            refine WK.region ?_
            refine WL.yld (wanted_plain (by rfl)) (yld_move (by rfl)) (by rfl) (by decide) ?_
            refine WL.eff (wanted_plain (by rfl)) (eff_call (by exact Try.call61) (by repeat (first | exact Evs.nil | apply Evs.cons | rfl)) (by repeat (first | exact SelL.nil | exact SelL.self | apply SelL.cons | exact Sel.here | apply Sel.there | apply SelL.skip)) (rdFail_spec q tl 0 2)) (by rfl) (by decide) ?_
            rintro _ -
            try dsimp only
            refine WL.done ?_
            refine WK.seq ?_
            refine WK.region ?_
            refine WL.yld (wanted_plain (by rfl)) (yld_move (by rfl)) (by rfl) (by decide) ?_
            refine WL.yld (wanted_plain (by rfl)) (yld_move (by rfl)) (by rfl) (by decide) ?_
            refine WL.yld (wanted_plain (by rfl)) (yld_andNot (by rfl) (by rfl) (by exact bAndNot_more b.toNat hb8)) (by rfl) (by decide) ?_
            refine WL.yld (wanted_plain (by rfl)) (yld_convInt (by rfl) (by exact Try.runUnderlying5) (by exact Try.runUnderlying75) (show IntKind.u64.wrap ((b.toNat % 128 : Nat) : Int) = ((b.toNat % 128 : Nat) : Int) from by rw [u64wrap]; congr 1; omega)) (by rfl) (by decide) ?_
            refine WL.yld (wanted_plain (by rfl)) (yld_move (by rfl)) (by rfl) (by decide) ?_
            refine WL.yld (wanted_plain (by rfl)) (yld_mul (by rfl) (by rfl) (by first | exact w64 (by omega) (by omega) | rfl)) (by rfl) (by decide) ?_
            refine WL.yld (wanted_plain (by rfl)) (yld_shl (by rfl) (by rfl) (by omega) (by rfl)) (by rfl) (by decide) ?_
            refine WL.yld (wanted_plain (by rfl)) (yld_or (by rfl) (by rfl) (by rfl)) (by rfl) (by decide) ?_
            refine WL.yld (wanted_plain (by rfl)) (yld_assign (by rfl)) (by rfl) (by decide) ?_
            refine WL.done ?_
            refine WK.seq ?_
            refine WK.openS (fun w s => Sat.rdOpen (s.sel1 (A := rdR q tl (failE 0 2)) (by repeat (first | exact .here | apply Sel.there)))) ?_
            rintro ⟨ad, len, cap⟩ -
            dsimp only [rdL, List.cons_append, List.nil_append]
            refine WK.region ?_
            refine WL.yld (wanted_plain (by rfl)) (yld_move (by rfl)) (by rfl) (by decide) ?_
            refine WL.yld (wanted_plain (by rfl)) (yld_lss (by rfl) (by rfl)) (by rfl) (by decide) ?_
            refine WL.yld (wanted_plain (by rfl)) (yld_move (by rfl)) (by rfl) (by decide) ?_
            refine WL.split (d := 41) (by rfl) (fun hc41 => ?_) (fun hc41 => ?_)
            · skip
              have hc41 := of_decide_eq_true hc41
              refine WL.yld (wanted_some (by rfl) (by rfl) (by rfl)) (yld_move (by rfl)) (by rfl) (by decide) ?_
              refine WL.yld (wanted_some (by rfl) (by rfl) (by rfl)) (yld_nilCheck (by rfl)) (by rfl) (by decide) ?_
              refine WL.yld (wanted_some (by rfl) (by rfl) (by rfl)) (yld_fieldAddr (by rfl) (by exact Try.runUnderlying101) (by rfl) (by exact Try.sizeOf32) (by rfl) (by rfl)) (by rfl) (by decide) ?_
              refine WL.yld (wanted_some (by rfl) (by rfl) (by rfl)) (yld_load (by rfl) (by exact Try.isAgg32) (by repeat (first | exact .here | apply Sel.there)) (by rfl)) (by rfl) (by decide) ?_
              refine WL.yld (wanted_some (by rfl) (by rfl) (by rfl)) (yld_eql (by rfl) (by rfl)) (by rfl) (by decide) ?_
              refine WL.yld (wanted_plain (by rfl)) (yld_pick_true (by rfl) (by rfl)) (by rfl) (by decide) ?_
              refine WL.done ?_
              refine WK.cond (by rfl) (fun hc47 => ?_) (fun hc47 => ?_)
              · skip
                have hc47 := of_decide_eq_true hc47
                simp [failE] at hc47
              · skip
                have hc47 := of_decide_eq_false hc47
                refine WK.skip ?_
                refine WK.endBlock ?_
                refine WK.region ?_
                refine WL.yld (wanted_plain (by rfl)) (yld_move (by rfl)) (by rfl) (by decide) ?_
                refine WL.yld (wanted_plain (by rfl)) (yld_add (by rfl) (by rfl) (by first | exact w64 (by omega) (by omega) | rfl)) (by rfl) (by decide) ?_
                refine WL.yld (wanted_plain (by rfl)) (yld_assign (by rfl)) (by rfl) (by decide) ?_
                refine WL.done ?_
                refine WK.sat (fun w s => Sat.rdShut ⟨ad, len, cap⟩ (s.sel (As := rdL q tl (failE 0 2) ⟨ad, len, cap⟩) (by dsimp only [rdL]; exact (by repeat (first | exact SelL.nil | exact SelL.self | apply SelL.cons | exact Sel.here | apply Sel.there | apply SelL.skip))))) ?_
                exact WK.next hN (i + 1, _, tl, (failE 0 2)) ⟨by dsimp only; omega, .inr ⟨by simp [failE], by rw [hu]; unfold uintR; exact if_pos (by omega)⟩⟩ (by simp [failE]) (by repeat (first | exact KK.nil | refine KK.cons (by first | rfl | (simp; done)) ?_)) (by repeat (first | exact SelL.nil | exact SelL.self | apply SelL.cons | exact Sel.here | apply Sel.there | apply SelL.skip))
            · skip
              have hc41 := of_decide_eq_false hc41
              refine WL.skip (unwanted_some (by rfl) (by rfl) (by rfl) (by rfl)) (by rfl) (by decide) ?_
              refine WL.skip (unwanted_some (by rfl) (by rfl) (by rfl) (by rfl)) (by rfl) (by decide) ?_
              refine WL.skip (unwanted_some (by rfl) (by rfl) (by rfl) (by rfl)) (by rfl) (by decide) ?_
              refine WL.skip (unwanted_some (by rfl) (by rfl) (by rfl) (by rfl)) (by rfl) (by decide) ?_
              refine WL.skip (unwanted_some (by rfl) (by rfl) (by rfl) (by rfl)) (by rfl) (by decide) ?_
              refine WL.yld (wanted_plain (by rfl)) (yld_pick_false (by rfl) (by rfl)) (by rfl) (by decide) ?_
              refine WL.done ?_
              refine WK.cond (by rfl) (fun h => by cases h) (fun _ => ?_)
              refine WK.skip ?_
              refine WK.endBlock ?_
              refine WK.region ?_
              refine WL.yld (wanted_plain (by rfl)) (yld_move (by rfl)) (by rfl) (by decide) ?_
              refine WL.yld (wanted_plain (by rfl)) (yld_add (by rfl) (by rfl) (by first | exact w64 (by omega) (by omega) | rfl)) (by rfl) (by decide) ?_
              refine WL.yld (wanted_plain (by rfl)) (yld_assign (by rfl)) (by rfl) (by decide) ?_
              refine WL.done ?_
              refine WK.sat (fun w s => Sat.rdShut ⟨ad, len, cap⟩ (s.sel (As := rdL q tl (failE 0 2) ⟨ad, len, cap⟩) (by dsimp only [rdL]; exact (by repeat (first | exact SelL.nil | exact SelL.self | apply SelL.cons | exact Sel.here | apply Sel.there | apply SelL.skip))))) ?_
              exact WK.next hN (i + 1, _, tl, (failE 0 2)) ⟨by dsimp only; omega, .inr ⟨by simp [failE], by rw [hu]; unfold uintR; exact if_pos (by omega)⟩⟩ (by simp [failE]) (by repeat (first | exact KK.nil | refine KK.cons (by first | rfl | (simp; done)) ?_)) (by repeat (first | exact SelL.nil | exact SelL.self | apply SelL.cons | exact Sel.here | apply Sel.there | apply SelL.skip))
          · skip
            have hc28 := of_decide_eq_false hc28
            refine WK.skip ?_
            refine WK.seq ?_
            refine WK.region ?_
            refine WL.yld (wanted_plain (by rfl)) (yld_move (by rfl)) (by rfl) (by decide) ?_
            refine WL.yld (wanted_plain (by rfl)) (yld_move (by rfl)) (by rfl) (by decide) ?_
            refine WL.yld (wanted_plain (by rfl)) (yld_andNot (by rfl) (by rfl) (by exact bAndNot_more b.toNat hb8)) (by rfl) (by decide) ?_
            refine WL.yld (wanted_plain (by rfl)) (yld_convInt (by rfl) (by exact Try.runUnderlying5) (by exact Try.runUnderlying75) (show IntKind.u64.wrap ((b.toNat % 128 : Nat) : Int) = ((b.toNat % 128 : Nat) : Int) from by rw [u64wrap]; congr 1; omega)) (by rfl) (by decide) ?_
            refine WL.yld (wanted_plain (by rfl)) (yld_move (by rfl)) (by rfl) (by decide) ?_
            refine WL.yld (wanted_plain (by rfl)) (yld_mul (by rfl) (by rfl) (by first | exact w64 (by omega) (by omega) | rfl)) (by rfl) (by decide) ?_
            refine WL.yld (wanted_plain (by rfl)) (yld_shl (by rfl) (by rfl) (by omega) (by rfl)) (by rfl) (by decide) ?_
            refine WL.yld (wanted_plain (by rfl)) (yld_or (by rfl) (by rfl) (by exact orBits (b := b.toNat) hi9 hn (by omega))) (by rfl) (by decide) ?_
            refine WL.yld (wanted_plain (by rfl)) (yld_assign (by rfl)) (by rfl) (by decide) ?_
            refine WL.done ?_
            refine WK.seq ?_
            refine WK.openS (fun w s => Sat.rdOpen (s.sel1 (A := rdR q tl 0) (by repeat (first | exact .here | apply Sel.there)))) ?_
            rintro ⟨ad, len, cap⟩ -
            dsimp only [rdL, List.cons_append, List.nil_append]
            refine WK.region ?_
            refine WL.yld (wanted_plain (by rfl)) (yld_move (by rfl)) (by rfl) (by decide) ?_
            refine WL.yld (wanted_plain (by rfl)) (yld_lss (by rfl) (by rfl)) (by rfl) (by decide) ?_
            refine WL.yld (wanted_plain (by rfl)) (yld_move (by rfl)) (by rfl) (by decide) ?_
            refine WL.split (d := 41) (by rfl) (fun hc41 => ?_) (fun hc41 => ?_)
            · skip
              have hc41 := of_decide_eq_true hc41
              refine WL.yld (wanted_some (by rfl) (by rfl) (by rfl)) (yld_move (by rfl)) (by rfl) (by decide) ?_
              refine WL.yld (wanted_some (by rfl) (by rfl) (by rfl)) (yld_nilCheck (by rfl)) (by rfl) (by decide) ?_
              refine WL.yld (wanted_some (by rfl) (by rfl) (by rfl)) (yld_fieldAddr (by rfl) (by exact Try.runUnderlying101) (by rfl) (by exact Try.sizeOf32) (by rfl) (by rfl)) (by rfl) (by decide) ?_
              refine WL.yld (wanted_some (by rfl) (by rfl) (by rfl)) (yld_load (by rfl) (by exact Try.isAgg32) (by repeat (first | exact .here | apply Sel.there)) (by rfl)) (by rfl) (by decide) ?_
              refine WL.yld (wanted_some (by rfl) (by rfl) (by rfl)) (yld_eql (by rfl) (by rfl)) (by rfl) (by decide) ?_
              refine WL.yld (wanted_plain (by rfl)) (yld_pick_true (by rfl) (by rfl)) (by rfl) (by decide) ?_
              refine WL.done ?_
              refine WK.cond (by rfl) (fun hc47 => ?_) (fun hc47 => ?_)
              · skip
                have hc47 := of_decide_eq_true hc47
                refine WK.seq ?_
                refine WK.region ?_
                refine WL.yld (wanted_plain (by rfl)) (yld_move (by rfl)) (by rfl) (by decide) ?_
                refine WL.yld (wanted_plain (by rfl)) (yld_assign (by rfl)) (by rfl) (by decide) ?_
                refine WL.done ?_
                refine WK.ret ?_
                repeat (first | refine RQ.block ?_ | refine RQ.then_ ?_)
                refine RQ.body (results1 (by rfl) (by rfl)) (fun w s => ?_)
                have hu2 : uintE bs e = some (n + b.toNat % 128 * 2 ^ (7 * i), tl) := by rw [hu]; unfold uintR; rw [if_neg (by omega), if_pos (by omega), Int.toNat_natCast]
                refine ⟨(tl, 0), by rw [hu2], by rw [hu2]; rfl, ?_⟩
                exact Sat.rdShut ⟨ad, len, cap⟩ (s.sel (As := rdL q tl 0 ⟨ad, len, cap⟩) (by dsimp only [rdL]; exact (by repeat (first | exact SelL.nil | exact SelL.self | apply SelL.cons | exact Sel.here | apply Sel.there | apply SelL.skip))))
              · skip
                have hc47 := of_decide_eq_false hc47
                refine WK.skip ?_
                refine WK.endBlock ?_
                refine WK.region ?_
                refine WL.yld (wanted_plain (by rfl)) (yld_move (by rfl)) (by rfl) (by decide) ?_
                refine WL.yld (wanted_plain (by rfl)) (yld_add (by rfl) (by rfl) (by first | exact w64 (by omega) (by omega) | rfl)) (by rfl) (by decide) ?_
                refine WL.yld (wanted_plain (by rfl)) (yld_assign (by rfl)) (by rfl) (by decide) ?_
                refine WL.done ?_
                refine WK.sat (fun w s => Sat.rdShut ⟨ad, len, cap⟩ (s.sel (As := rdL q tl 0 ⟨ad, len, cap⟩) (by dsimp only [rdL]; exact (by repeat (first | exact SelL.nil | exact SelL.self | apply SelL.cons | exact Sel.here | apply Sel.there | apply SelL.skip))))) ?_
                have hs := shl_or (c := b.toNat % 128) hi9 hn (by omega) (by omega)
                exact WK.next hN (i + 1, _, tl, 0) ⟨by dsimp only; omega, .inl ⟨rfl, by rw [hu, Int.toNat_natCast, uintR_more (by omega) (by omega)]; dsimp only; rw [Int.toNat_natCast], by dsimp only; omega, _, rfl, hs.1⟩⟩ (by simp) (by repeat (first | exact KK.nil | refine KK.cons (by first | rfl | (simp; done)) ?_)) (by repeat (first | exact SelL.nil | exact SelL.self | apply SelL.cons | exact Sel.here | apply Sel.there | apply SelL.skip))
            · skip
              have hc41 := of_decide_eq_false hc41
              refine WL.skip (unwanted_some (by rfl) (by rfl) (by rfl) (by rfl)) (by rfl) (by decide) ?_
              refine WL.skip (unwanted_some (by rfl) (by rfl) (by rfl) (by rfl)) (by rfl) (by decide) ?_
              refine WL.skip (unwanted_some (by rfl) (by rfl) (by rfl) (by rfl)) (by rfl) (by decide) ?_
              refine WL.skip (unwanted_some (by rfl) (by rfl) (by rfl) (by rfl)) (by rfl) (by decide) ?_
              refine WL.skip (unwanted_some (by rfl) (by rfl) (by rfl) (by rfl)) (by rfl) (by decide) ?_
              refine WL.yld (wanted_plain (by rfl)) (yld_pick_false (by rfl) (by rfl)) (by rfl) (by decide) ?_
              refine WL.done ?_
              refine WK.cond (by rfl) (fun h => by cases h) (fun _ => ?_)
              refine WK.skip ?_
              refine WK.endBlock ?_
              refine WK.region ?_
              refine WL.yld (wanted_plain (by rfl)) (yld_move (by rfl)) (by rfl) (by decide) ?_
              refine WL.yld (wanted_plain (by rfl)) (yld_add (by rfl) (by rfl) (by first | exact w64 (by omega) (by omega) | rfl)) (by rfl) (by decide) ?_
              refine WL.yld (wanted_plain (by rfl)) (yld_assign (by rfl)) (by rfl) (by decide) ?_
              refine WL.done ?_
              refine WK.sat (fun w s => Sat.rdShut ⟨ad, len, cap⟩ (s.sel (As := rdL q tl 0 ⟨ad, len, cap⟩) (by dsimp only [rdL]; exact (by repeat (first | exact SelL.nil | exact SelL.self | apply SelL.cons | exact Sel.here | apply Sel.there | apply SelL.skip))))) ?_
              have hs := shl_or (c := b.toNat % 128) hi9 hn (by omega) (by omega)
              exact WK.next hN (i + 1, _, tl, 0) ⟨by dsimp only; omega, .inl ⟨rfl, by rw [hu, Int.toNat_natCast, uintR_more (by omega) (by omega)]; dsimp only; rw [Int.toNat_natCast], by dsimp only; omega, _, rfl, hs.1⟩⟩ (by simp) (by repeat (first | exact KK.nil | refine KK.cons (by first | rfl | (simp; done)) ?_)) (by repeat (first | exact SelL.nil | exact SelL.self | apply SelL.cons | exact Sel.here | apply Sel.there | apply SelL.skip))
        · skip
          have hc24 := of_decide_eq_false hc24
          refine WL.skip (unwanted_some (by rfl) (by rfl) (by rfl) (by rfl)) (by rfl) (by decide) ?_
          refine WL.skip (unwanted_some (by rfl) (by rfl) (by rfl) (by rfl)) (by rfl) (by decide) ?_
          refine WL.yld (wanted_some (by rfl) (by rfl) (by rfl)) (yld_pick_false (by rfl) (by rfl)) (by rfl) (by decide) ?_
          refine WL.yld (wanted_plain (by rfl)) (yld_pick_false (by rfl) (by rfl)) (by rfl) (by decide) ?_
          refine WL.done ?_
          refine WK.cond (by rfl) (fun h => by cases h) (fun _ => ?_)
          refine WK.skip ?_
          refine WK.seq ?_
          refine WK.region ?_
          refine WL.yld (wanted_plain (by rfl)) (yld_move (by rfl)) (by rfl) (by decide) ?_
          refine WL.yld (wanted_plain (by rfl)) (yld_move (by rfl)) (by rfl) (by decide) ?_
          refine WL.yld (wanted_plain (by rfl)) (yld_andNot (by rfl) (by rfl) (by exact bAndNot_more b.toNat hb8)) (by rfl) (by decide) ?_
          refine WL.yld (wanted_plain (by rfl)) (yld_convInt (by rfl) (by exact Try.runUnderlying5) (by exact Try.runUnderlying75) (show IntKind.u64.wrap ((b.toNat % 128 : Nat) : Int) = ((b.toNat % 128 : Nat) : Int) from by rw [u64wrap]; congr 1; omega)) (by rfl) (by decide) ?_
          refine WL.yld (wanted_plain (by rfl)) (yld_move (by rfl)) (by rfl) (by decide) ?_
          refine WL.yld (wanted_plain (by rfl)) (yld_mul (by rfl) (by rfl) (by first | exact w64 (by omega) (by omega) | rfl)) (by rfl) (by decide) ?_
          refine WL.yld (wanted_plain (by rfl)) (yld_shl (by rfl) (by rfl) (by omega) (by rfl)) (by rfl) (by decide) ?_
          refine WL.yld (wanted_plain (by rfl)) (yld_or (by rfl) (by rfl) (by exact orBits (b := b.toNat) hi9 hn (by omega))) (by rfl) (by decide) ?_
          refine WL.yld (wanted_plain (by rfl)) (yld_assign (by rfl)) (by rfl) (by decide) ?_
          refine WL.done ?_
          refine WK.seq ?_
          refine WK.openS (fun w s => Sat.rdOpen (s.sel1 (A := rdR q tl 0) (by repeat (first | exact .here | apply Sel.there)))) ?_
          rintro ⟨ad, len, cap⟩ -
          dsimp only [rdL, List.cons_append, List.nil_append]
          refine WK.region ?_
          refine WL.yld (wanted_plain (by rfl)) (yld_move (by rfl)) (by rfl) (by decide) ?_
          refine WL.yld (wanted_plain (by rfl)) (yld_lss (by rfl) (by rfl)) (by rfl) (by decide) ?_
          refine WL.yld (wanted_plain (by rfl)) (yld_move (by rfl)) (by rfl) (by decide) ?_
          refine WL.split (d := 41) (by rfl) (fun hc41 => ?_) (fun hc41 => ?_)
          · skip
            have hc41 := of_decide_eq_true hc41
            refine WL.yld (wanted_some (by rfl) (by rfl) (by rfl)) (yld_move (by rfl)) (by rfl) (by decide) ?_
            refine WL.yld (wanted_some (by rfl) (by rfl) (by rfl)) (yld_nilCheck (by rfl)) (by rfl) (by decide) ?_
            refine WL.yld (wanted_some (by rfl) (by rfl) (by rfl)) (yld_fieldAddr (by rfl) (by exact Try.runUnderlying101) (by rfl) (by exact Try.sizeOf32) (by rfl) (by rfl)) (by rfl) (by decide) ?_
            refine WL.yld (wanted_some (by rfl) (by rfl) (by rfl)) (yld_load (by rfl) (by exact Try.isAgg32) (by repeat (first | exact .here | apply Sel.there)) (by rfl)) (by rfl) (by decide) ?_
            refine WL.yld (wanted_some (by rfl) (by rfl) (by rfl)) (yld_eql (by rfl) (by rfl)) (by rfl) (by decide) ?_
            refine WL.yld (wanted_plain (by rfl)) (yld_pick_true (by rfl) (by rfl)) (by rfl) (by decide) ?_
            refine WL.done ?_
            refine WK.cond (by rfl) (fun hc47 => ?_) (fun hc47 => ?_)
            · skip
              have hc47 := of_decide_eq_true hc47
              refine WK.seq ?_
              refine WK.region ?_
              refine WL.yld (wanted_plain (by rfl)) (yld_move (by rfl)) (by rfl) (by decide) ?_
              refine WL.yld (wanted_plain (by rfl)) (yld_assign (by rfl)) (by rfl) (by decide) ?_
              refine WL.done ?_
              refine WK.ret ?_
              repeat (first | refine RQ.block ?_ | refine RQ.then_ ?_)
              refine RQ.body (results1 (by rfl) (by rfl)) (fun w s => ?_)
              have hu2 : uintE bs e = some (n + b.toNat % 128 * 2 ^ (7 * i), tl) := by rw [hu]; unfold uintR; rw [if_neg (by omega), if_pos (by omega), Int.toNat_natCast]
              refine ⟨(tl, 0), by rw [hu2], by rw [hu2]; rfl, ?_⟩
              exact Sat.rdShut ⟨ad, len, cap⟩ (s.sel (As := rdL q tl 0 ⟨ad, len, cap⟩) (by dsimp only [rdL]; exact (by repeat (first | exact SelL.nil | exact SelL.self | apply SelL.cons | exact Sel.here | apply Sel.there | apply SelL.skip))))
            · skip
              have hc47 := of_decide_eq_false hc47
              refine WK.skip ?_
              refine WK.endBlock ?_
              refine WK.region ?_
              refine WL.yld (wanted_plain (by rfl)) (yld_move (by rfl)) (by rfl) (by decide) ?_
              refine WL.yld (wanted_plain (by rfl)) (yld_add (by rfl) (by rfl) (by first | exact w64 (by omega) (by omega) | rfl)) (by rfl) (by decide) ?_
              refine WL.yld (wanted_plain (by rfl)) (yld_assign (by rfl)) (by rfl) (by decide) ?_
              refine WL.done ?_
              refine WK.sat (fun w s => Sat.rdShut ⟨ad, len, cap⟩ (s.sel (As := rdL q tl 0 ⟨ad, len, cap⟩) (by dsimp only [rdL]; exact (by repeat (first | exact SelL.nil | exact SelL.self | apply SelL.cons | exact Sel.here | apply Sel.there | apply SelL.skip))))) ?_
              have hs := shl_or (c := b.toNat % 128) hi9 hn (by omega) (by omega)
              exact WK.next hN (i + 1, _, tl, 0) ⟨by dsimp only; omega, .inl ⟨rfl, by rw [hu, Int.toNat_natCast, uintR_more (by omega) (by omega)]; dsimp only; rw [Int.toNat_natCast], by dsimp only; omega, _, rfl, hs.1⟩⟩ (by simp) (by repeat (first | exact KK.nil | refine KK.cons (by first | rfl | (simp; done)) ?_)) (by repeat (first | exact SelL.nil | exact SelL.self | apply SelL.cons | exact Sel.here | apply Sel.there | apply SelL.skip))
          · skip
            have hc41 := of_decide_eq_false hc41
            refine WL.skip (unwanted_some (by rfl) (by rfl) (by rfl) (by rfl)) (by rfl) (by decide) ?_
            refine WL.skip (unwanted_some (by rfl) (by rfl) (by rfl) (by rfl)) (by rfl) (by decide) ?_
            refine WL.skip (unwanted_some (by rfl) (by rfl) (by rfl) (by rfl)) (by rfl) (by decide) ?_
            refine WL.skip (unwanted_some (by rfl) (by rfl) (by rfl) (by rfl)) (by rfl) (by decide) ?_
            refine WL.skip (unwanted_some (by rfl) (by rfl) (by rfl) (by rfl)) (by rfl) (by decide) ?_
            refine WL.yld (wanted_plain (by rfl)) (yld_pick_false (by rfl) (by rfl)) (by rfl) (by decide) ?_
            refine WL.done ?_
            refine WK.cond (by rfl) (fun h => by cases h) (fun _ => ?_)
            refine WK.skip ?_
            refine WK.endBlock ?_
            refine WK.region ?_
            refine WL.yld (wanted_plain (by rfl)) (yld_move (by rfl)) (by rfl) (by decide) ?_
            refine WL.yld (wanted_plain (by rfl)) (yld_add (by rfl) (by rfl) (by first | exact w64 (by omega) (by omega) | rfl)) (by rfl) (by decide) ?_
            refine WL.yld (wanted_plain (by rfl)) (yld_assign (by rfl)) (by rfl) (by decide) ?_
            refine WL.done ?_
            refine WK.sat (fun w s => Sat.rdShut ⟨ad, len, cap⟩ (s.sel (As := rdL q tl 0 ⟨ad, len, cap⟩) (by dsimp only [rdL]; exact (by repeat (first | exact SelL.nil | exact SelL.self | apply SelL.cons | exact Sel.here | apply Sel.there | apply SelL.skip))))) ?_
            have hs := shl_or (c := b.toNat % 128) hi9 hn (by omega) (by omega)
            exact WK.next hN (i + 1, _, tl, 0) ⟨by dsimp only; omega, .inl ⟨rfl, by rw [hu, Int.toNat_natCast, uintR_more (by omega) (by omega)]; dsimp only; rw [Int.toNat_natCast], by dsimp only; omega, _, rfl, hs.1⟩⟩ (by simp) (by repeat (first | exact KK.nil | refine KK.cons (by first | rfl | (simp; done)) ?_)) (by repeat (first | exact SelL.nil | exact SelL.self | apply SelL.cons | exact Sel.here | apply Sel.there | apply SelL.skip))
  · skip
    have hc10 := of_decide_eq_false hc10
    refine WK.exit ?_
    repeat (first | refine XQ.then_ ?_ | refine XQ.block (by rfl) ?_)
    refine XQ.here ?_
    refine WK.seq ?_
    refine WK.region ?_
    refine WL.yld (wanted_plain (by rfl)) (yld_assign (by rfl)) (by rfl) (by decide) ?_
    refine WL.done ?_
    refine WK.ret ?_
    repeat (first | refine RQ.block ?_ | refine RQ.then_ ?_)
    refine RQ.body (results1 (by rfl) (by rfl)) (fun w s => ?_)
    rcases hst with h | h
    · exact absurd h.1 (by omega)
    · refine ⟨(cs, e'), by rw [h.2]; exact h.1, by rw [h.2]; rfl, ?_⟩
      exact Sat.rdShut ⟨ad, len, cap⟩ (s.sel (As := rdL q cs e' ⟨ad, len, cap⟩) (by dsimp only [rdL]; exact (by repeat (first | exact SelL.nil | exact SelL.self | apply SelL.cons | exact Sel.here | apply Sel.there | apply SelL.skip))))
set_option maxRecDepth 20000 in
set_option maxHeartbeats 1000000 in
theorem rdInt_spec (q : Nat) (bs : List UInt8) (e : Int) :
    Triple Try.prog 54 #[.pointer (some ⟨q, 0, none⟩)] [rdR q bs e] (List UInt8 × Int) (fun x => match uintE bs e with | some r => x = (r.2, 0) | none => x.2 ≠ 0) (fun _ => .int .i64 (unzig (((uintE bs e).map Prod.fst).getD 0))) (fun x => [rdR q x.1 x.2]) := by
  refine Triple.of_body (args := [.pointer (some ⟨q, 0, none⟩)]) Try.func54 rfl Try.ntmps54 (by simp) (fun g F => ?_)
  dsimp only [numb, List.cons_append, List.nil_append]
  refine WK.seq ?_
  refine WK.region ?_
  refine WL.yld (wanted_plain (by rfl)) (yld_assign (by rfl)) (by rfl) (by decide) ?_
  refine WL.done ?_
  refine WK.seq ?_
  refine WK.region ?_
  refine WL.yld (wanted_plain (by rfl)) (yld_move (by rfl)) (by rfl) (by decide) ?_
  refine WL.eff (wanted_plain (by rfl)) (eff_call (by exact Try.call37) (by repeat (first | exact Evs.nil | apply Evs.cons | rfl)) (by repeat (first | exact SelL.nil | exact SelL.self | apply SelL.cons | exact Sel.here | apply Sel.there | apply SelL.skip)) (rdUint_spec q bs e)) (by rfl) (by decide) ?_
  rintro x4 hx4
  try dsimp only
  refine WL.eff (wanted_plain (by rfl)) (eff_call (by exact Try.call69) (by repeat (first | exact Evs.nil | apply Evs.cons | rfl)) (by repeat (first | exact SelL.nil | exact SelL.self | apply SelL.cons | exact Sel.here | apply Sel.there | apply SelL.skip)) (unzigzag_spec _ (uintE_lt bs e))) (by rfl) (by decide) ?_
  rintro _ -
  try dsimp only
  refine WL.yld (wanted_plain (by rfl)) (yld_assign (by rfl)) (by rfl) (by decide) ?_
  refine WL.done ?_
  refine WK.ret ?_
  repeat (first | refine RQ.block ?_ | refine RQ.then_ ?_)
  refine RQ.body (results1 (by rfl) (by rfl)) (fun w s => ?_)
  exact ⟨x4, hx4, rfl, s⟩
end Go.Proofs.Ytnknclbiamhnaaa
