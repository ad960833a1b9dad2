import Derived.Test.YtnknclbiamhnaaaHashA
import Derived.Test.YtnknclbiamhnaaaWireB
namespace Go.Proofs.Ytnknclbiamhnaaa
set_option linter.unusedVariables false
set_option linter.unusedSimpArgs false
set_option linter.unusedSectionVars false
open Go Go.Sep
attribute [local irreducible] row sl mapO held exL allR byt mapI slr
/-! ### The reference's reader: it shares the bytes that it was handed -/
def rfL (q : Nat) (bs : List UInt8) (e : Int) (x : WX) : List HProp := [row true q 99 [.slice x.ad x.len x.cap, .int .i64 e], sl false 5 1 x.ad x.len x.cap (bs.map bv)]
def rfR (q : Nat) (bs : List UInt8) (e : Int) : HProp := exL (fun _ : WX => True) (rfL q bs e)
theorem Sat.rfShut {g w : World} {Ps : List HProp} {q : Nat} {bs : List UInt8} {e : Int} (x : WX) (s : Sat g w (rfL q bs e x ++ Ps)) : Sat g w (rfR q bs e :: Ps) := by
  unfold rfR
  exact Sat.exShut x trivial s
theorem Sat.rfOpen {g w : World} {Ps : List HProp} {q : Nat} {bs : List UInt8} {e : Int} (s : Sat g w (rfR q bs e :: Ps)) : ∃ x : WX, True ∧ Sat g w (rfL q bs e x ++ Ps) := by
  unfold rfR at s
  exact s.exOpen
theorem Triple.rfOpen {P : Program} {f : FuncId} {args : Array Value} {Pre : List HProp} {ι : Type} {φ : ι → Prop} {val : ι → Value} {Post : ι → List HProp} {q : Nat} {bs : List UInt8} {e : Int}
    (h : ∀ x : WX, Triple P f args (rfL q bs e x ++ Pre) ι φ val Post) : Triple P f args (rfR q bs e :: Pre) ι φ val Post := by
  unfold rfR
  exact Triple.openEx fun x _ => h x
attribute [irreducible] rfR
/-- The length ahead of a byte slice, if there are so many bytes. -/
def lenE (bs : List UInt8) (e : Int) : Option (Nat × List UInt8) := match uintE bs e with
  | some (n, r) => if n ≤ r.length then some (n, r) else none
  | none => none
def lenV (bs : List UInt8) (e : Int) : Nat := ((lenE bs e).map Prod.fst).getD 0
theorem rawE_len (bs : List UInt8) (e : Int) : rawE bs e = (lenE bs e).map fun x => (x.2.take x.1, x.2.drop x.1) := by
  rcases h : uintE bs e with _ | ⟨n, r⟩
  · simp [rawE, lenE, h]
  · by_cases hn : n ≤ r.length <;> simp [rawE, lenE, h, hn]
theorem lenE_le {bs r : List UInt8} {e : Int} {n : Nat} (h : lenE bs e = some (n, r)) : n ≤ r.length ∧ r.length < bs.length := by
  unfold lenE at h
  split at h
  · rename_i n' r' hu
    split at h
    · cases h; exact ⟨by assumption, (uintE_some hu).2⟩
    · cases h
  · cases h
theorem lenE_e {bs : List UInt8} {e : Int} {x : Nat × List UInt8} (h : lenE bs e = some x) : e = 0 := by
  unfold lenE at h
  split at h
  · rename_i hu; exact uintE_e hu
  · cases h
theorem quoW (m : Int) (h : 0 ≤ m ∧ m < 18446744073709551616) : IntKind.u64.wrap (m.tdiv 4294967296) = m.fdiv (2 ^ (min (32 : Int).toNat IntKind.u64.bits)) := by
  have e1 : (2 : Int) ^ (min (32 : Int).toNat IntKind.u64.bits) = 4294967296 := by decide
  rw [e1, Int.fdiv_eq_ediv_of_nonneg _ (by decide), Int.tdiv_eq_ediv_of_nonneg h.1]
  exact wU64 (by omega) (by omega)
theorem wrapR (i : Int) : 0 ≤ IntKind.u64.wrap i ∧ IntKind.u64.wrap i < 18446744073709551616 := by
  rw [wrap64n]; omega
theorem uintR_nil (i n : Nat) : uintR i n [] = none := by rw [uintR]
theorem uintR_bad {i n : Nat} {c : UInt8} {bs : List UInt8} (h : (i = 9 ∧ 1 < c.toNat) ∨ (0 < i ∧ c.toNat = 0)) : uintR i n (c :: bs) = none := by rw [uintR, if_pos h]
theorem uintR_last {i n : Nat} {c : UInt8} {bs : List UInt8} (h1 : ¬ ((i = 9 ∧ 1 < c.toNat) ∨ (0 < i ∧ c.toNat = 0))) (h2 : c.toNat < 128) : uintR i n (c :: bs) = some (n + c.toNat % 128 * 2 ^ (7 * i), bs) := by
  rw [uintR, if_neg h1, if_pos h2]
theorem drop_at {bs : List UInt8} {i : Nat} {c : UInt8} (h : bs[i]? = some c) : bs.drop i = c :: bs.drop (i + 1) := by
  obtain ⟨hi, rfl⟩ := List.getElem?_eq_some_iff.1 h
  exact List.drop_eq_getElem_cons hi
theorem unitW {i : Nat} (h : i ≤ 8) : IntKind.u64.wrap (((2 ^ (7 * i) : Nat) : Int) * 128) = ((2 ^ (7 * (i + 1)) : Nat) : Int) := by
  have e : (2 : Nat) ^ (7 * (i + 1)) = 2 ^ (7 * i) * 128 := by rw [show 7 * (i + 1) = 7 * i + 7 from by omega, Nat.pow_add]
  have h2 : (2 : Nat) ^ (7 * (i + 1)) ≤ 2 ^ 63 := Nat.pow_le_pow_right (by omega) (by omega)
  rw [show (((2 ^ (7 * i) : Nat) : Int) * 128) = ((2 ^ (7 * i) * 128 : Nat) : Int) from by norm_cast, u64wrap, ← e, Nat.mod_eq_of_lt (by omega)]
theorem mulW {c i : Nat} (h : c * 2 ^ (7 * i) < 18446744073709551616) : IntKind.u64.wrap ((c : Int) * ((2 ^ (7 * i) : Nat) : Int)) = ((c * 2 ^ (7 * i) : Nat) : Int) := by
  rw [show ((c : Int) * ((2 ^ (7 * i) : Nat) : Int)) = ((c * 2 ^ (7 * i) : Nat) : Int) from by norm_cast, u64wrap, Nat.mod_eq_of_lt h]
theorem tmodN (a b : Nat) : Int.tmod (a : Int) (b : Int) = ((a % b : Nat) : Int) := rfl
theorem tdivN (a b : Nat) : Int.tdiv (a : Int) (b : Int) = ((a / b : Nat) : Int) := rfl
theorem quoN {a b : Nat} (h : a < 18446744073709551616) : IntKind.u64.wrap (Int.tdiv (a : Int) (b : Int)) = ((a / b : Nat) : Int) := by
  rw [tdivN, u64wrap, Nat.mod_eq_of_lt (Nat.lt_of_le_of_lt (Nat.div_le_self _ _) h)]
theorem leM_cons {bs : List UInt8} {j m : Nat} {c : UInt8} (hj : j < m) (hc : bs[j]? = some c) : leM ((bs.drop j).take (m - j)) = c.toNat + 256 * leM ((bs.drop (j + 1)).take (m - (j + 1))) := by
  rw [drop_at hc, show m - j = (m - (j + 1)) + 1 from by omega]
  rfl
theorem elem114 : ElemT Try.prog 114 75 1 8 := ⟨Try.underlying114, ⟨Try.t75, _, by kernel_rfl, rfl, rfl, rfl, rfl⟩⟩
set_option maxRecDepth 20000 in
set_option maxHeartbeats 1000000 in
theorem refUint_spec (m : Nat) (hm : m < 18446744073709551616) :
    Triple Try.prog 52 #[.int .u64 (m : Int)] [] (Option Addr × Nat) (fun _ => True) (fun x => .slice x.1 (uintB m).length x.2) (fun x => [sl true 5 1 x.1 (uintB m).length x.2 ((uintB m).map bv)]) := by
  refine Triple.of_body (args := [.int .u64 (m : Int)]) Try.func52 rfl Try.ntmps52 (by simp) (fun g F => ?_)
  dsimp only [numb, List.cons_append, List.nil_append]
  refine WK.seq ?_
  refine WK.region ?_
  refine WL.yld (wanted_plain (by rfl)) (yld_assign (by rfl)) (by rfl) (by decide) ?_
  refine WL.done ?_
  refine WK.seq ?_
  refine WK.region ?_
  refine WL.yld (wanted_plain (by rfl)) (yld_assign (by rfl)) (by rfl) (by decide) ?_
  refine WL.done ?_
  refine WK.seq ?_
  refine WK.block ?_
  refine WK.sat (fun w s => Sat.nilSl s true 5 1) ?_
  refine WK.loop (ι := Nat × List UInt8 × Option Addr × Nat) (fun x => x.1 ≤ m ∧ x.2.1 ++ uintB x.1 = uintB m) (fun x => [(0, .int .u64 (x.1 : Int)), (3, .slice x.2.2.1 x.2.1.length x.2.2.2)]) (fun x => sl true 5 1 x.2.2.1 x.2.1.length x.2.2.2 (x.2.1.map bv) :: F) (fun x => x.1) ((m, [], none, 0)) (⟨Nat.le_refl _, rfl⟩) (by repeat (first | exact KK.nil | refine KK.cons (by first | rfl | (simp; done)) ?_)) (by repeat (first | exact SelL.nil | exact SelL.self | apply SelL.cons | exact Sel.here | apply Sel.there | apply SelL.skip)) ?_
  rintro ⟨k, cs, ad2, cap2⟩ ⟨hk, hcs⟩ N hN
  dsimp only at hk hcs ⊢
  have hlen := congrArg List.length hcs
  simp only [List.length_append] at hlen
  have hu := uintB_le hm
  refine WK.seq ?_
  refine WK.seq ?_
  refine WK.region ?_
  refine WL.yld (wanted_plain (by rfl)) (yld_move (by rfl)) (by rfl) (by decide) ?_
  refine WL.yld (wanted_plain (by rfl)) (yld_gtr (by rfl) (by rfl)) (by rfl) (by decide) ?_
  refine WL.done ?_
  refine WK.cond (by rfl) (fun hc5 => ?_) (fun hc5 => ?_)
  · skip
    have hc5 := of_decide_eq_true hc5
    refine WK.skip ?_
    refine WK.block ?_
    refine WK.seq ?_
    refine WK.region ?_
    refine WL.yld (wanted_plain (by rfl)) (yld_move (by rfl)) (by rfl) (by decide) ?_
    refine WL.yld (wanted_plain (by rfl)) (yld_move (by rfl)) (by rfl) (by decide) ?_
    refine WL.yld (wanted_plain (by rfl)) (yld_rem (by rfl) (by rfl) (by omega) (show Int.tmod (k : Int) 128 = ((k % 128 : Nat) : Int) from rfl)) (by rfl) (by decide) ?_
    refine WL.yld (wanted_plain (by rfl)) (yld_add (by rfl) (by rfl) (by exact wU64 (by omega) (by omega))) (by rfl) (by decide) ?_
    refine WL.yld (wanted_plain (by rfl)) (yld_convInt (by rfl) (by exact Try.runUnderlying75) (by exact Try.runUnderlying5) (show IntKind.u8.wrap _ = ((UInt8.ofNat (k % 128 + 128)).toNat : Int) from by rw [u8of (by omega)]; exact (wU8 (by omega) (by omega)).trans (by omega))) (by rfl) (by decide) ?_
    refine WL.eff (wanted_plain (by rfl)) (eff_mkSlice1 (by rfl) (by rfl) (by exact Try.runUnderlying31) (by exact Try.sizeOf5) (by exact Try.zeroValue5) (by rfl) (by rfl) (by decide) (by rfl)) (by rfl) (by decide) ?_
    rintro b11 -
    try dsimp only
    refine WL.eff (wanted_plain (by rfl)) (eff_append (by rfl) (by rfl) (by exact elem31) (by exact Try.underlying31) (by repeat (first | exact SelL.nil | exact SelL.self | apply SelL.cons | exact Sel.here | apply Sel.there | apply SelL.skip)) (by omega) (by omega)) (by rfl) (by decide) ?_
    rintro ⟨ad12, cap12⟩ -
    try dsimp only
    refine WL.yld (wanted_plain (by rfl)) (yld_assign (by rfl)) (by rfl) (by decide) ?_
    refine WL.done ?_
    refine WK.region ?_
    refine WL.yld (wanted_plain (by rfl)) (yld_move (by rfl)) (by rfl) (by decide) ?_
    refine WL.yld (wanted_plain (by rfl)) (yld_quo (by rfl) (by rfl) (by omega) (by exact quoN (b := 128) (by omega))) (by rfl) (by decide) ?_
    refine WL.yld (wanted_plain (by rfl)) (yld_assign (by rfl)) (by rfl) (by decide) ?_
    refine WL.done ?_
    refine WK.endBlock ?_
    have e : (cs ++ [UInt8.ofNat (k % 128 + 128)]) ++ uintB (k / 128) = uintB m := by rw [← hcs, uintB_more (n := k) (by omega), List.append_assoc]; rfl
    apply WK.next hN (k / 128, cs ++ [UInt8.ofNat (k % 128 + 128)], ad12, cap12) ⟨by dsimp only; omega, e⟩ (by dsimp only; omega) (by refine KK.cons rfl (KK.cons ?_ KK.nil); simp [Sep.look, List.length_append])
    dsimp only
    rw [List.length_append, List.map_append]
    exact (by repeat (first | exact SelL.nil | exact SelL.self | apply SelL.cons | exact Sel.here | apply Sel.there | apply SelL.skip))
  · skip
    have hc5 := of_decide_eq_false hc5
    refine WK.exit ?_
    repeat (first | refine XQ.then_ ?_ | refine XQ.block (by rfl) ?_)
    refine XQ.here ?_
    refine WK.seq ?_
    refine WK.region ?_
    refine WL.yld (wanted_plain (by rfl)) (yld_move (by rfl)) (by rfl) (by decide) ?_
    refine WL.yld (wanted_plain (by rfl)) (yld_move (by rfl)) (by rfl) (by decide) ?_
    refine WL.yld (wanted_plain (by rfl)) (yld_convInt (by rfl) (by exact Try.runUnderlying75) (by exact Try.runUnderlying5) (show IntKind.u8.wrap (k : Int) = ((UInt8.ofNat k).toNat : Int) from by rw [u8of (by omega)]; exact wU8 (by omega) (by omega))) (by rfl) (by decide) ?_
    refine WL.eff (wanted_plain (by rfl)) (eff_mkSlice1 (by rfl) (by rfl) (by exact Try.runUnderlying31) (by exact Try.sizeOf5) (by exact Try.zeroValue5) (by rfl) (by rfl) (by decide) (by rfl)) (by rfl) (by decide) ?_
    rintro b18 -
    try dsimp only
    refine WL.eff (wanted_plain (by rfl)) (eff_append (by rfl) (by rfl) (by exact elem31) (by exact Try.underlying31) (by repeat (first | exact SelL.nil | exact SelL.self | apply SelL.cons | exact Sel.here | apply Sel.there | apply SelL.skip)) (by omega) (by omega)) (by rfl) (by decide) ?_
    rintro ⟨ad19, cap19⟩ -
    try dsimp only
    refine WL.yld (wanted_plain (by rfl)) (yld_assign (by rfl)) (by rfl) (by decide) ?_
    refine WL.done ?_
    refine WK.ret ?_
    repeat (first | refine RQ.block ?_ | refine RQ.then_ ?_)
    refine RQ.body (results1 (by rfl) (by rfl)) (fun w s => ?_)
    have e : uintB m = cs ++ [UInt8.ofNat k] := by rw [← hcs, uintB_small (by omega)]
    refine ⟨(ad19, cap19), trivial, by rw [e, List.length_append]; rfl, ?_⟩
    rw [e, List.length_append, List.map_append]
    exact s.toCs (by repeat (first | exact SelL.nil | exact SelL.self | apply SelL.cons | exact Sel.here | apply Sel.there | apply SelL.skip))
set_option maxRecDepth 20000 in
set_option maxHeartbeats 1000000 in
theorem refZig_spec (i : Int) (hi : -9223372036854775808 ≤ i ∧ i ≤ 9223372036854775807) :
    Triple Try.prog 75 #[.int .i64 i] [] (Unit) (fun _ => True) (fun _ => .int .u64 (zig i : Int)) (fun _ => []) := by
  refine Triple.of_body (args := [.int .i64 i]) Try.func75 rfl Try.ntmps75 (by simp) (fun g F => ?_)
  dsimp only [numb, List.cons_append, List.nil_append]
  refine WK.seq ?_
  refine WK.region ?_
  refine WL.yld (wanted_plain (by rfl)) (yld_assign (by rfl)) (by rfl) (by decide) ?_
  refine WL.done ?_
  refine WK.seq ?_
  refine WK.seq ?_
  refine WK.region ?_
  refine WL.yld (wanted_plain (by rfl)) (yld_move (by rfl)) (by rfl) (by decide) ?_
  refine WL.yld (wanted_plain (by rfl)) (yld_lss (by rfl) (by rfl)) (by rfl) (by decide) ?_
  refine WL.done ?_
  refine WK.cond (by rfl) (fun hc4 => ?_) (fun hc4 => ?_)
  · skip
    have hc4 := of_decide_eq_true hc4
    refine WK.seq ?_
    refine WK.region ?_
    refine WL.yld (wanted_plain (by rfl)) (yld_move (by rfl)) (by rfl) (by decide) ?_
    refine WL.yld (wanted_plain (by rfl)) (yld_add (by rfl) (by rfl) (by first | exact w64 (by omega) (by omega) | rfl)) (by rfl) (by decide) ?_
    refine WL.yld (wanted_plain (by rfl)) (yld_neg (by rfl) (by first | exact w64 (by omega) (by omega) | rfl)) (by rfl) (by decide) ?_
    refine WL.yld (wanted_plain (by rfl)) (yld_convInt (by rfl) (by exact Try.runUnderlying3) (by exact Try.runUnderlying75) (by exact wU64 (by omega) (by omega))) (by rfl) (by decide) ?_
    refine WL.yld (wanted_plain (by rfl)) (yld_mul (by rfl) (by rfl) (by first | exact wU64 (by omega) (by omega) | rfl)) (by rfl) (by decide) ?_
    refine WL.yld (wanted_plain (by rfl)) (yld_add (by rfl) (by rfl) (by first | exact wU64 (by omega) (by omega) | rfl)) (by rfl) (by decide) ?_
    refine WL.yld (wanted_plain (by rfl)) (yld_assign (by rfl)) (by rfl) (by decide) ?_
    refine WL.done ?_
    refine WK.ret ?_
    repeat (first | refine RQ.block ?_ | refine RQ.then_ ?_)
    refine RQ.body (results1 (by rfl) (by rfl)) (fun w s => ?_)
    refine ⟨(), trivial, ?_, s⟩
    rw [show (zig i : Int) = 2 * -(i + 1) + 1 from by unfold zig; rw [if_neg (by omega)]; omega]
  · skip
    have hc4 := of_decide_eq_false hc4
    refine WK.skip ?_
    refine WK.seq ?_
    refine WK.region ?_
    refine WL.yld (wanted_plain (by rfl)) (yld_move (by rfl)) (by rfl) (by decide) ?_
    refine WL.yld (wanted_plain (by rfl)) (yld_convInt (by rfl) (by exact Try.runUnderlying3) (by exact Try.runUnderlying75) (by exact wU64 (by omega) (by omega))) (by rfl) (by decide) ?_
    refine WL.yld (wanted_plain (by rfl)) (yld_mul (by rfl) (by rfl) (by first | exact wU64 (by omega) (by omega) | rfl)) (by rfl) (by decide) ?_
    refine WL.yld (wanted_plain (by rfl)) (yld_assign (by rfl)) (by rfl) (by decide) ?_
    refine WL.done ?_
    refine WK.ret ?_
    repeat (first | refine RQ.block ?_ | refine RQ.then_ ?_)
    refine RQ.body (results1 (by rfl) (by rfl)) (fun w s => ?_)
    refine ⟨(), trivial, ?_, s⟩
    rw [show (zig i : Int) = 2 * i from by unfold zig; rw [if_pos (by omega)]; omega]
set_option maxRecDepth 20000 in
set_option maxHeartbeats 1000000 in
theorem refInt_spec (i : Int) (hi : -9223372036854775808 ≤ i ∧ i ≤ 9223372036854775807) :
    Triple Try.prog 66 #[.int .i64 i] [] (Option Addr × Nat) (fun _ => True) (fun x => .slice x.1 (uintB (zig i)).length x.2) (fun x => [sl true 5 1 x.1 (uintB (zig i)).length x.2 ((uintB (zig i)).map bv)]) := by
  refine Triple.of_body (args := [.int .i64 i]) Try.func66 rfl Try.ntmps66 (by simp) (fun g F => ?_)
  dsimp only [numb, List.cons_append, List.nil_append]
  refine WK.seq ?_
  refine WK.region ?_
  refine WL.yld (wanted_plain (by rfl)) (yld_assign (by rfl)) (by rfl) (by decide) ?_
  refine WL.done ?_
  refine WK.seq ?_
  refine WK.region ?_
  refine WL.yld (wanted_plain (by rfl)) (yld_move (by rfl)) (by rfl) (by decide) ?_
  refine WL.eff (wanted_plain (by rfl)) (eff_call (by exact Try.call75) (by repeat (first | exact Evs.nil | apply Evs.cons | rfl)) (by repeat (first | exact SelL.nil | exact SelL.self | apply SelL.cons | exact Sel.here | apply Sel.there | apply SelL.skip)) (refZig_spec i hi)) (by rfl) (by decide) ?_
  rintro _ -
  try dsimp only
  refine WL.eff (wanted_plain (by rfl)) (eff_call (by exact Try.call52) (by repeat (first | exact Evs.nil | apply Evs.cons | rfl)) (by repeat (first | exact SelL.nil | exact SelL.self | apply SelL.cons | exact Sel.here | apply Sel.there | apply SelL.skip)) (refUint_spec (zig i) (zig_lt i hi))) (by rfl) (by decide) ?_
  rintro ⟨adR, capR⟩ -
  try dsimp only
  refine WL.yld (wanted_plain (by rfl)) (yld_assign (by rfl)) (by rfl) (by decide) ?_
  refine WL.done ?_
  refine WK.ret ?_
  repeat (first | refine RQ.block ?_ | refine RQ.then_ ?_)
  refine RQ.body (results1 (by rfl) (by rfl)) (fun w s => ?_)
  exact ⟨(adR, capR), trivial, rfl, s⟩
set_option maxRecDepth 20000 in
set_option maxHeartbeats 1000000 in
theorem refRaw_spec (p : Bool) (ad : Option Addr) (len cap : Nat) (bs : List UInt8) (hl : len ≤ 1000000) :
    Triple Try.prog 51 #[.slice ad len cap] [sl p 5 1 ad len cap (bs.map bv)] (Option Addr × Nat) (fun _ => True) (fun x => .slice x.1 ((uintB bs.length).length + bs.length) x.2) (fun x => [sl true 5 1 x.1 ((uintB bs.length).length + bs.length) x.2 ((uintB bs.length ++ bs).map bv), sl p 5 1 ad len cap (bs.map bv)]) := by
  refine Triple.of_body (args := [.slice ad len cap]) Try.func51 rfl Try.ntmps51 (by simp) (fun g F => ?_)
  dsimp only [numb, List.cons_append, List.nil_append]
  refine WK.know (fun w s => Sat.slLen (s.sel1 (A := sl p 5 1 ad len cap (bs.map bv)) (by repeat (first | exact .here | apply Sel.there)))) (fun hkn => ?_)
  obtain ⟨n1, n1c, -⟩ := hkn
  simp only [Nat.mul_one, List.length_map] at n1
  have hu := uintB_le (n := bs.length) (by omega)
  subst n1
  refine WK.seq ?_
  refine WK.region ?_
  refine WL.yld (wanted_plain (by rfl)) (yld_assign (by rfl)) (by rfl) (by decide) ?_
  refine WL.done ?_
  refine WK.seq ?_
  refine WK.region ?_
  refine WL.yld (wanted_plain (by rfl)) (yld_move (by rfl)) (by rfl) (by decide) ?_
  refine WL.yld (wanted_plain (by rfl)) (yld_len (by rfl) (by exact Try.runUnderlying31)) (by rfl) (by decide) ?_
  refine WL.yld (wanted_plain (by rfl)) (yld_convInt (by rfl) (by exact Try.runUnderlying3) (by exact Try.runUnderlying75) (by exact wU64 (by omega) (by omega))) (by rfl) (by decide) ?_
  refine WL.eff (wanted_plain (by rfl)) (eff_call (by exact Try.call52) (by repeat (first | exact Evs.nil | apply Evs.cons | rfl)) (by repeat (first | exact SelL.nil | exact SelL.self | apply SelL.cons | exact Sel.here | apply Sel.there | apply SelL.skip)) (refUint_spec bs.length (by omega))) (by rfl) (by decide) ?_
  rintro ⟨adR, capR⟩ -
  try dsimp only
  refine WL.yld (wanted_plain (by rfl)) (yld_move (by rfl)) (by rfl) (by decide) ?_
  refine WL.eff (wanted_plain (by rfl)) (eff_append (by rfl) (by rfl) (by exact elem31) (by exact Try.underlying31) (by repeat (first | exact SelL.nil | exact SelL.self | apply SelL.cons | exact Sel.here | apply Sel.there | apply SelL.skip)) (by omega) (by omega)) (by rfl) (by decide) ?_
  rintro ⟨ad8, cap8⟩ -
  try dsimp only
  refine WL.yld (wanted_plain (by rfl)) (yld_assign (by rfl)) (by rfl) (by decide) ?_
  refine WL.done ?_
  refine WK.ret ?_
  repeat (first | refine RQ.block ?_ | refine RQ.then_ ?_)
  refine RQ.body (results1 (by rfl) (by rfl)) (fun w s => ?_)
  refine ⟨(ad8, cap8), trivial, rfl, ?_⟩
  rw [List.map_append (l₂ := bs)]
  exact s.toCs (by repeat (first | exact SelL.nil | exact SelL.self | apply SelL.cons | exact Sel.here | apply Sel.there | apply SelL.skip))
set_option maxRecDepth 20000 in
set_option maxHeartbeats 4000000 in
theorem rfUint_spec (q : Nat) (bs : List UInt8) (e : Int) :
    Triple Try.prog 56 #[.pointer (some ⟨q, 0, none⟩)] [rfR q bs e] (List UInt8 × Int) (fun x => match uintE bs e with | some r => x = (r.2, 0) | none => x.2 ≠ 0) (fun _ => .int .u64 ((((uintE bs e).map Prod.fst).getD 0 : Nat) : Int)) (fun x => [rfR q x.1 x.2]) := by
  refine Triple.rfOpen ?_
  rintro ⟨ad, len, cap⟩
  dsimp only [rfL]
  refine Triple.of_body (args := [.pointer (some ⟨q, 0, none⟩)]) Try.func56 rfl Try.ntmps56 (by simp) (fun g F => ?_)
  dsimp only [numb, List.cons_append, List.nil_append]
  refine WK.know (fun w s => Sat.slLen (s.sel1 (A := sl false 5 1 ad len cap (bs.map bv)) (by repeat (first | exact .here | apply Sel.there)))) (fun hkn => ?_)
  obtain ⟨n1, n1c, -⟩ := hkn
  simp only [Nat.mul_one, List.length_map] at n1
  refine WK.seq ?_
  refine WK.region ?_
  refine WL.yld (wanted_plain (by rfl)) (yld_assign (by rfl)) (by rfl) (by decide) ?_
  refine WL.done ?_
  refine WK.seq ?_
  refine WK.region ?_
  refine WL.yld (wanted_plain (by rfl)) (yld_assign (by rfl)) (by rfl) (by decide) ?_
  refine WL.done ?_
  refine WK.seq ?_
  refine WK.region ?_
  refine WL.yld (wanted_plain (by rfl)) (yld_assign (by rfl)) (by rfl) (by decide) ?_
  refine WL.done ?_
  refine WK.seq ?_
  refine WK.seq ?_
  refine WK.region ?_
  refine WL.yld (wanted_plain (by rfl)) (yld_assign (by rfl)) (by rfl) (by decide) ?_
  refine WL.done ?_
  refine WK.block ?_
  refine WK.loop (ι := Nat × Nat × Int) (fun x => x.1 ≤ 10 ∧ ((x.2.2 = 0 ∧ e = 0 ∧ x.1 ≤ 9 ∧ x.2.1 < 2 ^ (7 * x.1) ∧ uintE bs 0 = uintR x.1 x.2.1 (bs.drop x.1)) ∨ (x.2.2 ≠ 0 ∧ e = x.2.2))) (fun x => [(0, .pointer (some ⟨q, 0, none⟩)), (3, .int .u64 (x.2.1 : Int)), (4, .int .u64 ((2 ^ (7 * x.1) : Nat) : Int)), (5, .int .i64 (x.1 : Int))]) (fun x => row true q 99 [.slice ad len cap, .int .i64 x.2.2] :: sl false 5 1 ad len cap (bs.map bv) :: F) (fun x => 11 - x.1) ((0, 0, e)) (⟨Nat.zero_le _, by
  by_cases h : e = 0
  · subst h; exact .inl ⟨rfl, rfl, Nat.zero_le _, Nat.one_pos, rfl⟩
  · exact .inr ⟨h, rfl⟩⟩) (by repeat (first | exact KK.nil | refine KK.cons (by first | rfl | (simp; done)) ?_)) (by repeat (first | exact SelL.nil | exact SelL.self | apply SelL.cons | exact Sel.here | apply Sel.there | apply SelL.skip)) ?_
  rintro ⟨i, n, e'⟩ ⟨hi, hst⟩ N hN
  dsimp only at hi hst ⊢
  refine WK.seq ?_
  refine WK.seq ?_
  refine WK.region ?_
  refine WL.yld (wanted_plain (by rfl)) (yld_move (by rfl)) (by rfl) (by decide) ?_
  refine WL.yld (wanted_plain (by rfl)) (yld_nilCheck (by rfl)) (by rfl) (by decide) ?_
  refine WL.yld (wanted_plain (by rfl)) (yld_fieldAddr (by rfl) (by exact Try.runUnderlying99) (by rfl) (by exact Try.sizeOf32) (by rfl) (by rfl)) (by rfl) (by decide) ?_
  refine WL.yld (wanted_plain (by rfl)) (yld_load (by rfl) (by exact Try.isAgg32) (by repeat (first | exact .here | apply Sel.there)) (by rfl)) (by rfl) (by decide) ?_
  refine WL.yld (wanted_plain (by rfl)) (yld_eql (by rfl) (by rfl)) (by rfl) (by decide) ?_
  refine WL.done ?_
  refine WK.cond (by rfl) (fun hc11 => ?_) (fun hc11 => ?_)
  · skip
    have hc11 := of_decide_eq_true hc11
    obtain ⟨he0, rfl, hi9, hn, hu⟩ : e' = 0 ∧ e = 0 ∧ i ≤ 9 ∧ n < 2 ^ (7 * i) ∧ uintE bs 0 = uintR i n (bs.drop i) := by
      rcases hst with h | h
      · exact h
      · exact absurd hc11 h.1
    subst he0
    refine WK.skip ?_
    refine WK.seq ?_
    refine WK.block ?_
    refine WK.seq ?_
    refine WK.seq ?_
    refine WK.region ?_
    refine WL.yld (wanted_plain (by rfl)) (yld_move (by rfl)) (by rfl) (by decide) ?_
    refine WL.yld (wanted_plain (by rfl)) (yld_move (by rfl)) (by rfl) (by decide) ?_
    refine WL.yld (wanted_plain (by rfl)) (yld_nilCheck (by rfl)) (by rfl) (by decide) ?_
    refine WL.yld (wanted_plain (by rfl)) (yld_fieldAddr (by rfl) (by exact Try.runUnderlying99) (by rfl) (by exact Try.sizeOf31) (by rfl) (by rfl)) (by rfl) (by decide) ?_
    refine WL.yld (wanted_plain (by rfl)) (yld_load (by rfl) (by exact Try.isAgg31) (by repeat (first | exact .here | apply Sel.there)) (by rfl)) (by rfl) (by decide) ?_
    refine WL.yld (wanted_plain (by rfl)) (yld_len (by rfl) (by exact Try.runUnderlying31)) (by rfl) (by decide) ?_
    refine WL.yld (wanted_plain (by rfl)) (yld_geq (by rfl) (by rfl)) (by rfl) (by decide) ?_
    refine WL.done ?_
    refine WK.cond (by rfl) (fun hc20 => ?_) (fun hc20 => ?_)
    · skip
      have hc20 := of_decide_eq_true hc20
      refine WK.seq ?_
      refine WK.region ?_
      refine WL.yld (wanted_plain (by rfl)) (yld_move (by rfl)) (by rfl) (by decide) ?_
      refine WL.yld (wanted_plain (by rfl)) (yld_nilCheck (by rfl)) (by rfl) (by decide) ?_
      refine WL.yld (wanted_plain (by rfl)) (yld_fieldAddr (by rfl) (by exact Try.runUnderlying99) (by rfl) (by exact Try.sizeOf32) (by rfl) (by rfl)) (by rfl) (by decide) ?_
      refine WL.eff0 (wanted_plain (by rfl)) (eff_store (by rfl) (by rfl) (by exact Try.sizeOf32) (by rfl) (by rfl) (by rfl) (by repeat (first | exact .here | apply Sel.there)) (by repeat (first | exact SetAts.nil | apply SetAts.cons | exact SetAt.here | apply SetAt.there))) (by rfl) ?_
      rintro _ -
      try dsimp only
      refine WL.done ?_
      refine WK.exit ?_
      repeat (first | refine XQ.then_ ?_ | refine XQ.block (by rfl) ?_)
      refine XQ.here ?_
      refine WK.seq ?_
      refine WK.region ?_
      refine WL.yld (wanted_plain (by rfl)) (yld_assign (by rfl)) (by rfl) (by decide) ?_
      refine WL.done ?_
      refine WK.ret ?_
      repeat (first | refine RQ.block ?_ | refine RQ.then_ ?_)
      refine RQ.body (results1 (by rfl) (by rfl)) (fun w s => ?_)
      have hun : uintE bs 0 = none := by rw [hu, List.drop_eq_nil_of_le (by omega), uintR_nil]
      refine ⟨(bs, 3), by rw [hun]; simp, by rw [hun]; rfl, ?_⟩
      exact Sat.rfShut ⟨ad, len, cap⟩ (s.sel (As := rfL q bs 3 ⟨ad, len, cap⟩) (by dsimp only [rfL]; exact (by repeat (first | exact SelL.nil | exact SelL.self | apply SelL.cons | exact Sel.here | apply Sel.there | apply SelL.skip))))
    · skip
      have hc20 := of_decide_eq_false hc20
      obtain ⟨c, hc⟩ : ∃ c, bs[i]? = some c := ⟨_, List.getElem?_eq_getElem (by omega)⟩
      have hc8 := c.toNat_lt
      refine WK.skip ?_
      refine WK.seq ?_
      refine WK.region ?_
      refine WL.yld (wanted_plain (by rfl)) (yld_move (by rfl)) (by rfl) (by decide) ?_
      refine WL.yld (wanted_plain (by rfl)) (yld_nilCheck (by rfl)) (by rfl) (by decide) ?_
      refine WL.yld (wanted_plain (by rfl)) (yld_fieldAddr (by rfl) (by exact Try.runUnderlying99) (by rfl) (by exact Try.sizeOf31) (by rfl) (by rfl)) (by rfl) (by decide) ?_
      refine WL.yld (wanted_plain (by rfl)) (yld_load (by rfl) (by exact Try.isAgg31) (by repeat (first | exact .here | apply Sel.there)) (by rfl)) (by rfl) (by decide) ?_
      refine WL.yld (wanted_plain (by rfl)) (yld_move (by rfl)) (by rfl) (by decide) ?_
      refine WL.yld (wanted_plain (by rfl)) (yld_indexAddrS (by rfl) (by rfl) (by exact Try.runUnderlying31) (by exact Try.sizeOf5) (by repeat (first | exact .here | apply Sel.there)) (i) (by first | rfl | omega) (by omega) (by omega) (by exact Nat.mul_one _)) (by rfl) (by decide) ?_
      refine WL.yld (wanted_plain (by rfl)) (yld_loadS (by rfl) (by exact Try.isAgg5) (by repeat (first | exact .here | apply Sel.there)) (by rw [List.getElem?_map, hc]; rfl)) (by rfl) (by decide) ?_
      refine WL.yld (wanted_plain (by rfl)) (yld_assign (by rfl)) (by rfl) (by decide) ?_
      refine WL.done ?_
      refine WK.seq ?_
      refine WK.seq ?_
      refine WK.region ?_
      refine WL.yld (wanted_plain (by rfl)) (yld_move (by rfl)) (by rfl) (by decide) ?_
      refine WL.yld (wanted_plain (by rfl)) (yld_eql (by rfl) (by rfl)) (by rfl) (by decide) ?_
      refine WL.yld (wanted_plain (by rfl)) (yld_move (by rfl)) (by rfl) (by decide) ?_
      refine WL.split (d := 33) (by rfl) (fun hc33 => ?_) (fun hc33 => ?_)
      · skip
        have hc33 := of_decide_eq_true hc33
        refine WL.yld (wanted_some (by rfl) (by rfl) (by rfl)) (yld_move (by rfl)) (by rfl) (by decide) ?_
        refine WL.yld (wanted_some (by rfl) (by rfl) (by rfl)) (yld_gtr (by rfl) (by rfl)) (by rfl) (by decide) ?_
        refine WL.yld (wanted_plain (by rfl)) (yld_pick_true (by rfl) (by rfl)) (by rfl) (by decide) ?_
        refine WL.yld (wanted_plain (by rfl)) (yld_move (by rfl)) (by rfl) (by decide) ?_
        refine WL.split (d := 37) (by rfl) (fun hc37 => ?_) (fun hc37 => ?_)
        · skip
          have hc37 := of_decide_eq_true hc37
          refine WL.skip (unwanted_some (by rfl) (by rfl) (by rfl) (by rfl)) (by rfl) (by decide) ?_
          refine WL.skip (unwanted_some (by rfl) (by rfl) (by rfl) (by rfl)) (by rfl) (by decide) ?_
          refine WL.skip (unwanted_some (by rfl) (by rfl) (by rfl) (by rfl)) (by rfl) (by decide) ?_
          refine WL.skip (unwanted_undef (by rfl) (by rfl) (by rfl)) (by rfl) (by decide) ?_
          refine WL.skip (unwanted_undef (by rfl) (by rfl) (by rfl)) (by rfl) (by decide) ?_
          refine WL.skip (unwanted_some (by rfl) (by rfl) (by rfl) (by rfl)) (by rfl) (by decide) ?_
          refine WL.yld (wanted_plain (by rfl)) (yld_pick_true (by rfl) (by rfl)) (by rfl) (by decide) ?_
          refine WL.done ?_
          refine WK.cond (by rfl) (fun _ => ?_) (fun h => by cases h)
          refine WK.seq ?_
          refine WK.region ?_
          refine WL.yld (wanted_plain (by rfl)) (yld_move (by rfl)) (by rfl) (by decide) ?_
          refine WL.yld (wanted_plain (by rfl)) (yld_nilCheck (by rfl)) (by rfl) (by decide) ?_
          refine WL.yld (wanted_plain (by rfl)) (yld_fieldAddr (by rfl) (by exact Try.runUnderlying99) (by rfl) (by exact Try.sizeOf32) (by rfl) (by rfl)) (by rfl) (by decide) ?_
          refine WL.eff0 (wanted_plain (by rfl)) (eff_store (by rfl) (by rfl) (by exact Try.sizeOf32) (by rfl) (by rfl) (by rfl) (by repeat (first | exact .here | apply Sel.there)) (by repeat (first | exact SetAts.nil | apply SetAts.cons | exact SetAt.here | apply SetAt.there))) (by rfl) ?_
          rintro _ -
          try dsimp only
          refine WL.done ?_
          refine WK.exit ?_
          repeat (first | refine XQ.then_ ?_ | refine XQ.block (by rfl) ?_)
          refine XQ.here ?_
          refine WK.seq ?_
          refine WK.region ?_
          refine WL.yld (wanted_plain (by rfl)) (yld_assign (by rfl)) (by rfl) (by decide) ?_
          refine WL.done ?_
          refine WK.ret ?_
          repeat (first | refine RQ.block ?_ | refine RQ.then_ ?_)
          refine RQ.body (results1 (by rfl) (by rfl)) (fun w s => ?_)
          have hun : uintE bs 0 = none := by rw [hu, drop_at hc, uintR_bad (by omega)]
          refine ⟨(bs, 2), by rw [hun]; simp, by rw [hun]; rfl, ?_⟩
          exact Sat.rfShut ⟨ad, len, cap⟩ (s.sel (As := rfL q bs 2 ⟨ad, len, cap⟩) (by dsimp only [rfL]; exact (by repeat (first | exact SelL.nil | exact SelL.self | apply SelL.cons | exact Sel.here | apply Sel.there | apply SelL.skip))))
        · skip
          have hc37 := of_decide_eq_false hc37
          refine WL.yld (wanted_some (by rfl) (by rfl) (by rfl)) (yld_move (by rfl)) (by rfl) (by decide) ?_
          refine WL.yld (wanted_some (by rfl) (by rfl) (by rfl)) (yld_gtr (by rfl) (by rfl)) (by rfl) (by decide) ?_
          refine WL.yld (wanted_some (by rfl) (by rfl) (by rfl)) (yld_move (by rfl)) (by rfl) (by decide) ?_
          refine WL.split (d := 40) (by rfl) (fun hc40 => ?_) (fun hc40 => ?_)
          · skip
            have hc40 := of_decide_eq_true hc40
            refine WL.yld (wanted_some (by rfl) (by rfl) (by rfl)) (yld_move (by rfl)) (by rfl) (by decide) ?_
            refine WL.yld (wanted_some (by rfl) (by rfl) (by rfl)) (yld_eql (by rfl) (by rfl)) (by rfl) (by decide) ?_
            refine WL.yld (wanted_some (by rfl) (by rfl) (by rfl)) (yld_pick_true (by rfl) (by rfl)) (by rfl) (by decide) ?_
            refine WL.yld (wanted_plain (by rfl)) (yld_pick_false (by rfl) (by rfl)) (by rfl) (by decide) ?_
            refine WL.done ?_
            refine WK.cond (by rfl) (fun hc44 => ?_) (fun hc44 => ?_)
            · skip
              have hc44 := of_decide_eq_true hc44
              refine WK.seq ?_
              refine WK.region ?_
              refine WL.yld (wanted_plain (by rfl)) (yld_move (by rfl)) (by rfl) (by decide) ?_
              refine WL.yld (wanted_plain (by rfl)) (yld_nilCheck (by rfl)) (by rfl) (by decide) ?_
              refine WL.yld (wanted_plain (by rfl)) (yld_fieldAddr (by rfl) (by exact Try.runUnderlying99) (by rfl) (by exact Try.sizeOf32) (by rfl) (by rfl)) (by rfl) (by decide) ?_
              refine WL.eff0 (wanted_plain (by rfl)) (eff_store (by rfl) (by rfl) (by exact Try.sizeOf32) (by rfl) (by rfl) (by rfl) (by repeat (first | exact .here | apply Sel.there)) (by repeat (first | exact SetAts.nil | apply SetAts.cons | exact SetAt.here | apply SetAt.there))) (by rfl) ?_
              rintro _ -
              try dsimp only
              refine WL.done ?_
              refine WK.exit ?_
              repeat (first | refine XQ.then_ ?_ | refine XQ.block (by rfl) ?_)
              refine XQ.here ?_
              refine WK.seq ?_
              refine WK.region ?_
              refine WL.yld (wanted_plain (by rfl)) (yld_assign (by rfl)) (by rfl) (by decide) ?_
              refine WL.done ?_
              refine WK.ret ?_
              repeat (first | refine RQ.block ?_ | refine RQ.then_ ?_)
              refine RQ.body (results1 (by rfl) (by rfl)) (fun w s => ?_)
              have hun : uintE bs 0 = none := by rw [hu, drop_at hc, uintR_bad (by omega)]
              refine ⟨(bs, 2), by rw [hun]; simp, by rw [hun]; rfl, ?_⟩
              exact Sat.rfShut ⟨ad, len, cap⟩ (s.sel (As := rfL q bs 2 ⟨ad, len, cap⟩) (by dsimp only [rfL]; exact (by repeat (first | exact SelL.nil | exact SelL.self | apply SelL.cons | exact Sel.here | apply Sel.there | apply SelL.skip))))
            · skip
              have hc44 := of_decide_eq_false hc44
              refine WK.skip ?_
              refine WK.seq ?_
              refine WK.region ?_
              refine WL.yld (wanted_plain (by rfl)) (yld_move (by rfl)) (by rfl) (by decide) ?_
              refine WL.yld (wanted_plain (by rfl)) (yld_move (by rfl)) (by rfl) (by decide) ?_
              refine WL.yld (wanted_plain (by rfl)) (yld_rem (by rfl) (by rfl) (by omega) (by exact tmodN c.toNat 128)) (by rfl) (by decide) ?_
              refine WL.yld (wanted_plain (by rfl)) (yld_convInt (by rfl) (by exact Try.runUnderlying5) (by exact Try.runUnderlying75) (by exact wU64 (by omega) (by omega))) (by rfl) (by decide) ?_
              refine WL.yld (wanted_plain (by rfl)) (yld_move (by rfl)) (by rfl) (by decide) ?_
              refine WL.yld (wanted_plain (by rfl)) (yld_mul (by rfl) (by rfl) (by exact mulW (Nat.lt_of_le_of_lt (Nat.le_add_left _ n) (shl_or (c := c.toNat % 128) hi9 hn (by omega) (by omega)).2))) (by rfl) (by decide) ?_
              refine WL.yld (wanted_plain (by rfl)) (yld_add (by rfl) (by rfl) (show IntKind.u64.wrap ((n : Int) + ((c.toNat % 128 * 2 ^ (7 * i) : Nat) : Int)) = ((n + c.toNat % 128 * 2 ^ (7 * i) : Nat) : Int) from by rw [show ((n : Int) + ((c.toNat % 128 * 2 ^ (7 * i) : Nat) : Int)) = ((n + c.toNat % 128 * 2 ^ (7 * i) : Nat) : Int) from by norm_cast]; rw [u64wrap, Nat.mod_eq_of_lt (shl_or (c := c.toNat % 128) hi9 hn (by omega) (by omega)).2])) (by rfl) (by decide) ?_
              refine WL.yld (wanted_plain (by rfl)) (yld_assign (by rfl)) (by rfl) (by decide) ?_
              refine WL.done ?_
              refine WK.seq ?_
              refine WK.region ?_
              refine WL.yld (wanted_plain (by rfl)) (yld_move (by rfl)) (by rfl) (by decide) ?_
              refine WL.yld (wanted_plain (by rfl)) (yld_mul (by rfl) (by rfl) (by rfl)) (by rfl) (by decide) ?_
              refine WL.yld (wanted_plain (by rfl)) (yld_assign (by rfl)) (by rfl) (by decide) ?_
              refine WL.done ?_
              refine WK.seq ?_
              refine WK.region ?_
              refine WL.yld (wanted_plain (by rfl)) (yld_move (by rfl)) (by rfl) (by decide) ?_
              refine WL.yld (wanted_plain (by rfl)) (yld_lss (by rfl) (by rfl)) (by rfl) (by decide) ?_
              refine WL.done ?_
              refine WK.cond (by rfl) (fun hc58 => ?_) (fun hc58 => ?_)
              · skip
                have hc58 := of_decide_eq_true hc58
                refine WK.seq ?_
                refine WK.region ?_
                refine WL.yld (wanted_plain (by rfl)) (yld_move (by rfl)) (by rfl) (by decide) ?_
                refine WL.yld (wanted_plain (by rfl)) (yld_move (by rfl)) (by rfl) (by decide) ?_
                refine WL.yld (wanted_plain (by rfl)) (yld_nilCheck (by rfl)) (by rfl) (by decide) ?_
                refine WL.yld (wanted_plain (by rfl)) (yld_fieldAddr (by rfl) (by exact Try.runUnderlying99) (by rfl) (by exact Try.sizeOf31) (by rfl) (by rfl)) (by rfl) (by decide) ?_
                refine WL.yld (wanted_plain (by rfl)) (yld_load (by rfl) (by exact Try.isAgg31) (by repeat (first | exact .here | apply Sel.there)) (by rfl)) (by rfl) (by decide) ?_
                refine WL.yld (wanted_plain (by rfl)) (yld_move (by rfl)) (by rfl) (by decide) ?_
                refine WL.yld (wanted_plain (by rfl)) (yld_add (by rfl) (by rfl) (by first | exact w64 (by omega) (by omega) | rfl)) (by rfl) (by decide) ?_
                refine WL.yld (wanted_plain (by rfl)) (yld_slice_lo (by rfl) (by rfl) (by exact Try.runUnderlying31) (by exact Try.sizeOf5) (i + 1) (by first | rfl | omega) (by omega)) (by rfl) (by decide) ?_
                refine WL.yld (wanted_plain (by rfl)) (yld_nilCheck (by rfl)) (by rfl) (by decide) ?_
                refine WL.yld (wanted_plain (by rfl)) (yld_fieldAddr (by rfl) (by exact Try.runUnderlying99) (by rfl) (by exact Try.sizeOf31) (by rfl) (by rfl)) (by rfl) (by decide) ?_
                refine WL.eff0 (wanted_plain (by rfl)) (eff_store (by rfl) (by rfl) (by exact Try.sizeOf31) (by rfl) (by rfl) (by rfl) (by repeat (first | exact .here | apply Sel.there)) (by repeat (first | exact SetAts.nil | apply SetAts.cons | exact SetAt.here | apply SetAt.there))) (by rfl) ?_
                rintro _ -
                try dsimp only
                refine WL.done ?_
                refine WK.seq ?_
                refine WK.region ?_
                refine WL.yld (wanted_plain (by rfl)) (yld_move (by rfl)) (by rfl) (by decide) ?_
                refine WL.yld (wanted_plain (by rfl)) (yld_assign (by rfl)) (by rfl) (by decide) ?_
                refine WL.done ?_
                refine WK.ret ?_
                repeat (first | refine RQ.block ?_ | refine RQ.then_ ?_)
                refine RQ.body (results1 (by rfl) (by rfl)) (fun w s => ?_)
                have hun : uintE bs 0 = some (n + c.toNat % 128 * 2 ^ (7 * i), bs.drop (i + 1)) := by rw [hu, drop_at hc, uintR_last (by omega) (by omega)]
                refine ⟨(bs.drop (i + 1), 0), by rw [hun], by rw [hun]; rfl, ?_⟩
                have s1 := (s.sel1 (A := sl false 5 1 ad len cap (bs.map bv)) (by repeat (first | exact .here | apply Sel.there))).slTail (i + 1) (by omega)
                rw [Nat.mul_one, ← List.map_drop] at s1
                exact Sat.rfShut ⟨cutA ad cap (i + 1) 1, len - (i + 1), cap - (i + 1)⟩ (s1.sel (As := rfL q (bs.drop (i + 1)) 0 ⟨cutA ad cap (i + 1) 1, len - (i + 1), cap - (i + 1)⟩) (by dsimp only [rfL]; exact (by repeat (first | exact SelL.nil | exact SelL.self | apply SelL.cons | exact Sel.here | apply Sel.there | apply SelL.skip))))
              · skip
                have hc58 := of_decide_eq_false hc58
                rw [unitW (by omega)]
                refine WK.skip ?_
                refine WK.endBlock ?_
                refine WK.region ?_
                refine WL.yld (wanted_plain (by rfl)) (yld_move (by rfl)) (by rfl) (by decide) ?_
                refine WL.yld (wanted_plain (by rfl)) (yld_add (by rfl) (by rfl) (by first | exact w64 (by omega) (by omega) | rfl)) (by rfl) (by decide) ?_
                refine WL.yld (wanted_plain (by rfl)) (yld_assign (by rfl)) (by rfl) (by decide) ?_
                refine WL.done ?_
                have hs := shl_or (c := c.toNat % 128) hi9 hn (by omega) (by omega)
                exact WK.next hN (i + 1, n + c.toNat % 128 * 2 ^ (7 * i), 0) ⟨by dsimp only; omega, .inl ⟨rfl, rfl, by dsimp only; omega, hs.1, by dsimp only; rw [hu, drop_at hc, uintR_more (by omega) (by omega)]⟩⟩ (by dsimp only; omega) (by repeat (first | exact KK.nil | refine KK.cons (by first | rfl | (simp; done)) ?_)) (by repeat (first | exact SelL.nil | exact SelL.self | apply SelL.cons | exact Sel.here | apply Sel.there | apply SelL.skip))
          · skip
            have hc40 := of_decide_eq_false hc40
            refine WL.skip (unwanted_some (by rfl) (by rfl) (by rfl) (by rfl)) (by rfl) (by decide) ?_
            refine WL.skip (unwanted_some (by rfl) (by rfl) (by rfl) (by rfl)) (by rfl) (by decide) ?_
            refine WL.yld (wanted_some (by rfl) (by rfl) (by rfl)) (yld_pick_false (by rfl) (by rfl)) (by rfl) (by decide) ?_
            refine WL.yld (wanted_plain (by rfl)) (yld_pick_false (by rfl) (by rfl)) (by rfl) (by decide) ?_
            refine WL.done ?_
            refine WK.cond (by rfl) (fun h => by cases h) (fun _ => ?_)
            refine WK.skip ?_
            refine WK.seq ?_
            refine WK.region ?_
            refine WL.yld (wanted_plain (by rfl)) (yld_move (by rfl)) (by rfl) (by decide) ?_
            refine WL.yld (wanted_plain (by rfl)) (yld_move (by rfl)) (by rfl) (by decide) ?_
            refine WL.yld (wanted_plain (by rfl)) (yld_rem (by rfl) (by rfl) (by omega) (by exact tmodN c.toNat 128)) (by rfl) (by decide) ?_
            refine WL.yld (wanted_plain (by rfl)) (yld_convInt (by rfl) (by exact Try.runUnderlying5) (by exact Try.runUnderlying75) (by exact wU64 (by omega) (by omega))) (by rfl) (by decide) ?_
            refine WL.yld (wanted_plain (by rfl)) (yld_move (by rfl)) (by rfl) (by decide) ?_
            refine WL.yld (wanted_plain (by rfl)) (yld_mul (by rfl) (by rfl) (by exact mulW (Nat.lt_of_le_of_lt (Nat.le_add_left _ n) (shl_or (c := c.toNat % 128) hi9 hn (by omega) (by omega)).2))) (by rfl) (by decide) ?_
            refine WL.yld (wanted_plain (by rfl)) (yld_add (by rfl) (by rfl) (show IntKind.u64.wrap ((n : Int) + ((c.toNat % 128 * 2 ^ (7 * i) : Nat) : Int)) = ((n + c.toNat % 128 * 2 ^ (7 * i) : Nat) : Int) from by rw [show ((n : Int) + ((c.toNat % 128 * 2 ^ (7 * i) : Nat) : Int)) = ((n + c.toNat % 128 * 2 ^ (7 * i) : Nat) : Int) from by norm_cast]; rw [u64wrap, Nat.mod_eq_of_lt (shl_or (c := c.toNat % 128) hi9 hn (by omega) (by omega)).2])) (by rfl) (by decide) ?_
            refine WL.yld (wanted_plain (by rfl)) (yld_assign (by rfl)) (by rfl) (by decide) ?_
            refine WL.done ?_
            refine WK.seq ?_
            refine WK.region ?_
            refine WL.yld (wanted_plain (by rfl)) (yld_move (by rfl)) (by rfl) (by decide) ?_
            refine WL.yld (wanted_plain (by rfl)) (yld_mul (by rfl) (by rfl) (by rfl)) (by rfl) (by decide) ?_
            refine WL.yld (wanted_plain (by rfl)) (yld_assign (by rfl)) (by rfl) (by decide) ?_
            refine WL.done ?_
            refine WK.seq ?_
            refine WK.region ?_
            refine WL.yld (wanted_plain (by rfl)) (yld_move (by rfl)) (by rfl) (by decide) ?_
            refine WL.yld (wanted_plain (by rfl)) (yld_lss (by rfl) (by rfl)) (by rfl) (by decide) ?_
            refine WL.done ?_
            refine WK.cond (by rfl) (fun hc58 => ?_) (fun hc58 => ?_)
            · skip
              have hc58 := of_decide_eq_true hc58
              refine WK.seq ?_
              refine WK.region ?_
              refine WL.yld (wanted_plain (by rfl)) (yld_move (by rfl)) (by rfl) (by decide) ?_
              refine WL.yld (wanted_plain (by rfl)) (yld_move (by rfl)) (by rfl) (by decide) ?_
              refine WL.yld (wanted_plain (by rfl)) (yld_nilCheck (by rfl)) (by rfl) (by decide) ?_
              refine WL.yld (wanted_plain (by rfl)) (yld_fieldAddr (by rfl) (by exact Try.runUnderlying99) (by rfl) (by exact Try.sizeOf31) (by rfl) (by rfl)) (by rfl) (by decide) ?_
              refine WL.yld (wanted_plain (by rfl)) (yld_load (by rfl) (by exact Try.isAgg31) (by repeat (first | exact .here | apply Sel.there)) (by rfl)) (by rfl) (by decide) ?_
              refine WL.yld (wanted_plain (by rfl)) (yld_move (by rfl)) (by rfl) (by decide) ?_
              refine WL.yld (wanted_plain (by rfl)) (yld_add (by rfl) (by rfl) (by first | exact w64 (by omega) (by omega) | rfl)) (by rfl) (by decide) ?_
              refine WL.yld (wanted_plain (by rfl)) (yld_slice_lo (by rfl) (by rfl) (by exact Try.runUnderlying31) (by exact Try.sizeOf5) (i + 1) (by first | rfl | omega) (by omega)) (by rfl) (by decide) ?_
              refine WL.yld (wanted_plain (by rfl)) (yld_nilCheck (by rfl)) (by rfl) (by decide) ?_
              refine WL.yld (wanted_plain (by rfl)) (yld_fieldAddr (by rfl) (by exact Try.runUnderlying99) (by rfl) (by exact Try.sizeOf31) (by rfl) (by rfl)) (by rfl) (by decide) ?_
              refine WL.eff0 (wanted_plain (by rfl)) (eff_store (by rfl) (by rfl) (by exact Try.sizeOf31) (by rfl) (by rfl) (by rfl) (by repeat (first | exact .here | apply Sel.there)) (by repeat (first | exact SetAts.nil | apply SetAts.cons | exact SetAt.here | apply SetAt.there))) (by rfl) ?_
              rintro _ -
              try dsimp only
              refine WL.done ?_
              refine WK.seq ?_
              refine WK.region ?_
              refine WL.yld (wanted_plain (by rfl)) (yld_move (by rfl)) (by rfl) (by decide) ?_
              refine WL.yld (wanted_plain (by rfl)) (yld_assign (by rfl)) (by rfl) (by decide) ?_
              refine WL.done ?_
              refine WK.ret ?_
              repeat (first | refine RQ.block ?_ | refine RQ.then_ ?_)
              refine RQ.body (results1 (by rfl) (by rfl)) (fun w s => ?_)
              have hun : uintE bs 0 = some (n + c.toNat % 128 * 2 ^ (7 * i), bs.drop (i + 1)) := by rw [hu, drop_at hc, uintR_last (by omega) (by omega)]
              refine ⟨(bs.drop (i + 1), 0), by rw [hun], by rw [hun]; rfl, ?_⟩
              have s1 := (s.sel1 (A := sl false 5 1 ad len cap (bs.map bv)) (by repeat (first | exact .here | apply Sel.there))).slTail (i + 1) (by omega)
              rw [Nat.mul_one, ← List.map_drop] at s1
              exact Sat.rfShut ⟨cutA ad cap (i + 1) 1, len - (i + 1), cap - (i + 1)⟩ (s1.sel (As := rfL q (bs.drop (i + 1)) 0 ⟨cutA ad cap (i + 1) 1, len - (i + 1), cap - (i + 1)⟩) (by dsimp only [rfL]; exact (by repeat (first | exact SelL.nil | exact SelL.self | apply SelL.cons | exact Sel.here | apply Sel.there | apply SelL.skip))))
            · skip
              have hc58 := of_decide_eq_false hc58
              rw [unitW (by omega)]
              refine WK.skip ?_
              refine WK.endBlock ?_
              refine WK.region ?_
              refine WL.yld (wanted_plain (by rfl)) (yld_move (by rfl)) (by rfl) (by decide) ?_
              refine WL.yld (wanted_plain (by rfl)) (yld_add (by rfl) (by rfl) (by first | exact w64 (by omega) (by omega) | rfl)) (by rfl) (by decide) ?_
              refine WL.yld (wanted_plain (by rfl)) (yld_assign (by rfl)) (by rfl) (by decide) ?_
              refine WL.done ?_
              have hs := shl_or (c := c.toNat % 128) hi9 hn (by omega) (by omega)
              exact WK.next hN (i + 1, n + c.toNat % 128 * 2 ^ (7 * i), 0) ⟨by dsimp only; omega, .inl ⟨rfl, rfl, by dsimp only; omega, hs.1, by dsimp only; rw [hu, drop_at hc, uintR_more (by omega) (by omega)]⟩⟩ (by dsimp only; omega) (by repeat (first | exact KK.nil | refine KK.cons (by first | rfl | (simp; done)) ?_)) (by repeat (first | exact SelL.nil | exact SelL.self | apply SelL.cons | exact Sel.here | apply Sel.there | apply SelL.skip))
      · skip
        have hc33 := of_decide_eq_false hc33
        refine WL.skip (unwanted_some (by rfl) (by rfl) (by rfl) (by rfl)) (by rfl) (by decide) ?_
        refine WL.skip (unwanted_some (by rfl) (by rfl) (by rfl) (by rfl)) (by rfl) (by decide) ?_
        refine WL.yld (wanted_plain (by rfl)) (yld_pick_false (by rfl) (by rfl)) (by rfl) (by decide) ?_
        refine WL.yld (wanted_plain (by rfl)) (yld_move (by rfl)) (by rfl) (by decide) ?_
        refine WL.yld (wanted_some (by rfl) (by rfl) (by rfl)) (yld_move (by rfl)) (by rfl) (by decide) ?_
        refine WL.yld (wanted_some (by rfl) (by rfl) (by rfl)) (yld_gtr (by rfl) (by rfl)) (by rfl) (by decide) ?_
        refine WL.yld (wanted_some (by rfl) (by rfl) (by rfl)) (yld_move (by rfl)) (by rfl) (by decide) ?_
        refine WL.split (d := 40) (by rfl) (fun hc40 => ?_) (fun hc40 => ?_)
        · skip
          have hc40 := of_decide_eq_true hc40
          refine WL.yld (wanted_some (by rfl) (by rfl) (by rfl)) (yld_move (by rfl)) (by rfl) (by decide) ?_
          refine WL.yld (wanted_some (by rfl) (by rfl) (by rfl)) (yld_eql (by rfl) (by rfl)) (by rfl) (by decide) ?_
          refine WL.yld (wanted_some (by rfl) (by rfl) (by rfl)) (yld_pick_true (by rfl) (by rfl)) (by rfl) (by decide) ?_
          refine WL.yld (wanted_plain (by rfl)) (yld_pick_false (by rfl) (by rfl)) (by rfl) (by decide) ?_
          refine WL.done ?_
          refine WK.cond (by rfl) (fun hc44 => ?_) (fun hc44 => ?_)
          · skip
            have hc44 := of_decide_eq_true hc44
            refine WK.seq ?_
            refine WK.region ?_
            refine WL.yld (wanted_plain (by rfl)) (yld_move (by rfl)) (by rfl) (by decide) ?_
            refine WL.yld (wanted_plain (by rfl)) (yld_nilCheck (by rfl)) (by rfl) (by decide) ?_
            refine WL.yld (wanted_plain (by rfl)) (yld_fieldAddr (by rfl) (by exact Try.runUnderlying99) (by rfl) (by exact Try.sizeOf32) (by rfl) (by rfl)) (by rfl) (by decide) ?_
            refine WL.eff0 (wanted_plain (by rfl)) (eff_store (by rfl) (by rfl) (by exact Try.sizeOf32) (by rfl) (by rfl) (by rfl) (by repeat (first | exact .here | apply Sel.there)) (by repeat (first | exact SetAts.nil | apply SetAts.cons | exact SetAt.here | apply SetAt.there))) (by rfl) ?_
            rintro _ -
            try dsimp only
            refine WL.done ?_
            refine WK.exit ?_
            repeat (first | refine XQ.then_ ?_ | refine XQ.block (by rfl) ?_)
            refine XQ.here ?_
            refine WK.seq ?_
            refine WK.region ?_
            refine WL.yld (wanted_plain (by rfl)) (yld_assign (by rfl)) (by rfl) (by decide) ?_
            refine WL.done ?_
            refine WK.ret ?_
            repeat (first | refine RQ.block ?_ | refine RQ.then_ ?_)
            refine RQ.body (results1 (by rfl) (by rfl)) (fun w s => ?_)
            have hun : uintE bs 0 = none := by rw [hu, drop_at hc, uintR_bad (by omega)]
            refine ⟨(bs, 2), by rw [hun]; simp, by rw [hun]; rfl, ?_⟩
            exact Sat.rfShut ⟨ad, len, cap⟩ (s.sel (As := rfL q bs 2 ⟨ad, len, cap⟩) (by dsimp only [rfL]; exact (by repeat (first | exact SelL.nil | exact SelL.self | apply SelL.cons | exact Sel.here | apply Sel.there | apply SelL.skip))))
          · skip
            have hc44 := of_decide_eq_false hc44
            refine WK.skip ?_
            refine WK.seq ?_
            refine WK.region ?_
            refine WL.yld (wanted_plain (by rfl)) (yld_move (by rfl)) (by rfl) (by decide) ?_
            refine WL.yld (wanted_plain (by rfl)) (yld_move (by rfl)) (by rfl) (by decide) ?_
            refine WL.yld (wanted_plain (by rfl)) (yld_rem (by rfl) (by rfl) (by omega) (by exact tmodN c.toNat 128)) (by rfl) (by decide) ?_
            refine WL.yld (wanted_plain (by rfl)) (yld_convInt (by rfl) (by exact Try.runUnderlying5) (by exact Try.runUnderlying75) (by exact wU64 (by omega) (by omega))) (by rfl) (by decide) ?_
            refine WL.yld (wanted_plain (by rfl)) (yld_move (by rfl)) (by rfl) (by decide) ?_
            refine WL.yld (wanted_plain (by rfl)) (yld_mul (by rfl) (by rfl) (by exact mulW (Nat.lt_of_le_of_lt (Nat.le_add_left _ n) (shl_or (c := c.toNat % 128) hi9 hn (by omega) (by omega)).2))) (by rfl) (by decide) ?_
            refine WL.yld (wanted_plain (by rfl)) (yld_add (by rfl) (by rfl) (show IntKind.u64.wrap ((n : Int) + ((c.toNat % 128 * 2 ^ (7 * i) : Nat) : Int)) = ((n + c.toNat % 128 * 2 ^ (7 * i) : Nat) : Int) from by rw [show ((n : Int) + ((c.toNat % 128 * 2 ^ (7 * i) : Nat) : Int)) = ((n + c.toNat % 128 * 2 ^ (7 * i) : Nat) : Int) from by norm_cast]; rw [u64wrap, Nat.mod_eq_of_lt (shl_or (c := c.toNat % 128) hi9 hn (by omega) (by omega)).2])) (by rfl) (by decide) ?_
            refine WL.yld (wanted_plain (by rfl)) (yld_assign (by rfl)) (by rfl) (by decide) ?_
            refine WL.done ?_
            refine WK.seq ?_
            refine WK.region ?_
            refine WL.yld (wanted_plain (by rfl)) (yld_move (by rfl)) (by rfl) (by decide) ?_
            refine WL.yld (wanted_plain (by rfl)) (yld_mul (by rfl) (by rfl) (by rfl)) (by rfl) (by decide) ?_
            refine WL.yld (wanted_plain (by rfl)) (yld_assign (by rfl)) (by rfl) (by decide) ?_
            refine WL.done ?_
            refine WK.seq ?_
            refine WK.region ?_
            refine WL.yld (wanted_plain (by rfl)) (yld_move (by rfl)) (by rfl) (by decide) ?_
            refine WL.yld (wanted_plain (by rfl)) (yld_lss (by rfl) (by rfl)) (by rfl) (by decide) ?_
            refine WL.done ?_
            refine WK.cond (by rfl) (fun hc58 => ?_) (fun hc58 => ?_)
            · skip
              have hc58 := of_decide_eq_true hc58
              refine WK.seq ?_
              refine WK.region ?_
              refine WL.yld (wanted_plain (by rfl)) (yld_move (by rfl)) (by rfl) (by decide) ?_
              refine WL.yld (wanted_plain (by rfl)) (yld_move (by rfl)) (by rfl) (by decide) ?_
              refine WL.yld (wanted_plain (by rfl)) (yld_nilCheck (by rfl)) (by rfl) (by decide) ?_
              refine WL.yld (wanted_plain (by rfl)) (yld_fieldAddr (by rfl) (by exact Try.runUnderlying99) (by rfl) (by exact Try.sizeOf31) (by rfl) (by rfl)) (by rfl) (by decide) ?_
              refine WL.yld (wanted_plain (by rfl)) (yld_load (by rfl) (by exact Try.isAgg31) (by repeat (first | exact .here | apply Sel.there)) (by rfl)) (by rfl) (by decide) ?_
              refine WL.yld (wanted_plain (by rfl)) (yld_move (by rfl)) (by rfl) (by decide) ?_
              refine WL.yld (wanted_plain (by rfl)) (yld_add (by rfl) (by rfl) (by first | exact w64 (by omega) (by omega) | rfl)) (by rfl) (by decide) ?_
              refine WL.yld (wanted_plain (by rfl)) (yld_slice_lo (by rfl) (by rfl) (by exact Try.runUnderlying31) (by exact Try.sizeOf5) (i + 1) (by first | rfl | omega) (by omega)) (by rfl) (by decide) ?_
              refine WL.yld (wanted_plain (by rfl)) (yld_nilCheck (by rfl)) (by rfl) (by decide) ?_
              refine WL.yld (wanted_plain (by rfl)) (yld_fieldAddr (by rfl) (by exact Try.runUnderlying99) (by rfl) (by exact Try.sizeOf31) (by rfl) (by rfl)) (by rfl) (by decide) ?_
              refine WL.eff0 (wanted_plain (by rfl)) (eff_store (by rfl) (by rfl) (by exact Try.sizeOf31) (by rfl) (by rfl) (by rfl) (by repeat (first | exact .here | apply Sel.there)) (by repeat (first | exact SetAts.nil | apply SetAts.cons | exact SetAt.here | apply SetAt.there))) (by rfl) ?_
              rintro _ -
              try dsimp only
              refine WL.done ?_
              refine WK.seq ?_
              refine WK.region ?_
              refine WL.yld (wanted_plain (by rfl)) (yld_move (by rfl)) (by rfl) (by decide) ?_
              refine WL.yld (wanted_plain (by rfl)) (yld_assign (by rfl)) (by rfl) (by decide) ?_
              refine WL.done ?_
              refine WK.ret ?_
              repeat (first | refine RQ.block ?_ | refine RQ.then_ ?_)
              refine RQ.body (results1 (by rfl) (by rfl)) (fun w s => ?_)
              have hun : uintE bs 0 = some (n + c.toNat % 128 * 2 ^ (7 * i), bs.drop (i + 1)) := by rw [hu, drop_at hc, uintR_last (by omega) (by omega)]
              refine ⟨(bs.drop (i + 1), 0), by rw [hun], by rw [hun]; rfl, ?_⟩
              have s1 := (s.sel1 (A := sl false 5 1 ad len cap (bs.map bv)) (by repeat (first | exact .here | apply Sel.there))).slTail (i + 1) (by omega)
              rw [Nat.mul_one, ← List.map_drop] at s1
              exact Sat.rfShut ⟨cutA ad cap (i + 1) 1, len - (i + 1), cap - (i + 1)⟩ (s1.sel (As := rfL q (bs.drop (i + 1)) 0 ⟨cutA ad cap (i + 1) 1, len - (i + 1), cap - (i + 1)⟩) (by dsimp only [rfL]; exact (by repeat (first | exact SelL.nil | exact SelL.self | apply SelL.cons | exact Sel.here | apply Sel.there | apply SelL.skip))))
            · skip
              have hc58 := of_decide_eq_false hc58
              rw [unitW (by omega)]
              refine WK.skip ?_
              refine WK.endBlock ?_
              refine WK.region ?_
              refine WL.yld (wanted_plain (by rfl)) (yld_move (by rfl)) (by rfl) (by decide) ?_
              refine WL.yld (wanted_plain (by rfl)) (yld_add (by rfl) (by rfl) (by first | exact w64 (by omega) (by omega) | rfl)) (by rfl) (by decide) ?_
              refine WL.yld (wanted_plain (by rfl)) (yld_assign (by rfl)) (by rfl) (by decide) ?_
              refine WL.done ?_
              have hs := shl_or (c := c.toNat % 128) hi9 hn (by omega) (by omega)
              exact WK.next hN (i + 1, n + c.toNat % 128 * 2 ^ (7 * i), 0) ⟨by dsimp only; omega, .inl ⟨rfl, rfl, by dsimp only; omega, hs.1, by dsimp only; rw [hu, drop_at hc, uintR_more (by omega) (by omega)]⟩⟩ (by dsimp only; omega) (by repeat (first | exact KK.nil | refine KK.cons (by first | rfl | (simp; done)) ?_)) (by repeat (first | exact SelL.nil | exact SelL.self | apply SelL.cons | exact Sel.here | apply Sel.there | apply SelL.skip))
        · skip
          have hc40 := of_decide_eq_false hc40
          refine WL.skip (unwanted_some (by rfl) (by rfl) (by rfl) (by rfl)) (by rfl) (by decide) ?_
          refine WL.skip (unwanted_some (by rfl) (by rfl) (by rfl) (by rfl)) (by rfl) (by decide) ?_
          refine WL.yld (wanted_some (by rfl) (by rfl) (by rfl)) (yld_pick_false (by rfl) (by rfl)) (by rfl) (by decide) ?_
          refine WL.yld (wanted_plain (by rfl)) (yld_pick_false (by rfl) (by rfl)) (by rfl) (by decide) ?_
          refine WL.done ?_
          refine WK.cond (by rfl) (fun h => by cases h) (fun _ => ?_)
          refine WK.skip ?_
          refine WK.seq ?_
          refine WK.region ?_
          refine WL.yld (wanted_plain (by rfl)) (yld_move (by rfl)) (by rfl) (by decide) ?_
          refine WL.yld (wanted_plain (by rfl)) (yld_move (by rfl)) (by rfl) (by decide) ?_
          refine WL.yld (wanted_plain (by rfl)) (yld_rem (by rfl) (by rfl) (by omega) (by exact tmodN c.toNat 128)) (by rfl) (by decide) ?_
          refine WL.yld (wanted_plain (by rfl)) (yld_convInt (by rfl) (by exact Try.runUnderlying5) (by exact Try.runUnderlying75) (by exact wU64 (by omega) (by omega))) (by rfl) (by decide) ?_
          refine WL.yld (wanted_plain (by rfl)) (yld_move (by rfl)) (by rfl) (by decide) ?_
          refine WL.yld (wanted_plain (by rfl)) (yld_mul (by rfl) (by rfl) (by exact mulW (Nat.lt_of_le_of_lt (Nat.le_add_left _ n) (shl_or (c := c.toNat % 128) hi9 hn (by omega) (by omega)).2))) (by rfl) (by decide) ?_
          refine WL.yld (wanted_plain (by rfl)) (yld_add (by rfl) (by rfl) (show IntKind.u64.wrap ((n : Int) + ((c.toNat % 128 * 2 ^ (7 * i) : Nat) : Int)) = ((n + c.toNat % 128 * 2 ^ (7 * i) : Nat) : Int) from by rw [show ((n : Int) + ((c.toNat % 128 * 2 ^ (7 * i) : Nat) : Int)) = ((n + c.toNat % 128 * 2 ^ (7 * i) : Nat) : Int) from by norm_cast]; rw [u64wrap, Nat.mod_eq_of_lt (shl_or (c := c.toNat % 128) hi9 hn (by omega) (by omega)).2])) (by rfl) (by decide) ?_
          refine WL.yld (wanted_plain (by rfl)) (yld_assign (by rfl)) (by rfl) (by decide) ?_
          refine WL.done ?_
          refine WK.seq ?_
          refine WK.region ?_
          refine WL.yld (wanted_plain (by rfl)) (yld_move (by rfl)) (by rfl) (by decide) ?_
          refine WL.yld (wanted_plain (by rfl)) (yld_mul (by rfl) (by rfl) (by rfl)) (by rfl) (by decide) ?_
          refine WL.yld (wanted_plain (by rfl)) (yld_assign (by rfl)) (by rfl) (by decide) ?_
          refine WL.done ?_
          refine WK.seq ?_
          refine WK.region ?_
          refine WL.yld (wanted_plain (by rfl)) (yld_move (by rfl)) (by rfl) (by decide) ?_
          refine WL.yld (wanted_plain (by rfl)) (yld_lss (by rfl) (by rfl)) (by rfl) (by decide) ?_
          refine WL.done ?_
          refine WK.cond (by rfl) (fun hc58 => ?_) (fun hc58 => ?_)
          · skip
            have hc58 := of_decide_eq_true hc58
            refine WK.seq ?_
            refine WK.region ?_
            refine WL.yld (wanted_plain (by rfl)) (yld_move (by rfl)) (by rfl) (by decide) ?_
            refine WL.yld (wanted_plain (by rfl)) (yld_move (by rfl)) (by rfl) (by decide) ?_
            refine WL.yld (wanted_plain (by rfl)) (yld_nilCheck (by rfl)) (by rfl) (by decide) ?_
            refine WL.yld (wanted_plain (by rfl)) (yld_fieldAddr (by rfl) (by exact Try.runUnderlying99) (by rfl) (by exact Try.sizeOf31) (by rfl) (by rfl)) (by rfl) (by decide) ?_
            refine WL.yld (wanted_plain (by rfl)) (yld_load (by rfl) (by exact Try.isAgg31) (by repeat (first | exact .here | apply Sel.there)) (by rfl)) (by rfl) (by decide) ?_
            refine WL.yld (wanted_plain (by rfl)) (yld_move (by rfl)) (by rfl) (by decide) ?_
            refine WL.yld (wanted_plain (by rfl)) (yld_add (by rfl) (by rfl) (by first | exact w64 (by omega) (by omega) | rfl)) (by rfl) (by decide) ?_
            refine WL.yld (wanted_plain (by rfl)) (yld_slice_lo (by rfl) (by rfl) (by exact Try.runUnderlying31) (by exact Try.sizeOf5) (i + 1) (by first | rfl | omega) (by omega)) (by rfl) (by decide) ?_
            refine WL.yld (wanted_plain (by rfl)) (yld_nilCheck (by rfl)) (by rfl) (by decide) ?_
            refine WL.yld (wanted_plain (by rfl)) (yld_fieldAddr (by rfl) (by exact Try.runUnderlying99) (by rfl) (by exact Try.sizeOf31) (by rfl) (by rfl)) (by rfl) (by decide) ?_
            refine WL.eff0 (wanted_plain (by rfl)) (eff_store (by rfl) (by rfl) (by exact Try.sizeOf31) (by rfl) (by rfl) (by rfl) (by repeat (first | exact .here | apply Sel.there)) (by repeat (first | exact SetAts.nil | apply SetAts.cons | exact SetAt.here | apply SetAt.there))) (by rfl) ?_
            rintro _ -
            try dsimp only
            refine WL.done ?_
            refine WK.seq ?_
            refine WK.region ?_
            refine WL.yld (wanted_plain (by rfl)) (yld_move (by rfl)) (by rfl) (by decide) ?_
            refine WL.yld (wanted_plain (by rfl)) (yld_assign (by rfl)) (by rfl) (by decide) ?_
            refine WL.done ?_
            refine WK.ret ?_
            repeat (first | refine RQ.block ?_ | refine RQ.then_ ?_)
            refine RQ.body (results1 (by rfl) (by rfl)) (fun w s => ?_)
            have hun : uintE bs 0 = some (n + c.toNat % 128 * 2 ^ (7 * i), bs.drop (i + 1)) := by rw [hu, drop_at hc, uintR_last (by omega) (by omega)]
            refine ⟨(bs.drop (i + 1), 0), by rw [hun], by rw [hun]; rfl, ?_⟩
            have s1 := (s.sel1 (A := sl false 5 1 ad len cap (bs.map bv)) (by repeat (first | exact .here | apply Sel.there))).slTail (i + 1) (by omega)
            rw [Nat.mul_one, ← List.map_drop] at s1
            exact Sat.rfShut ⟨cutA ad cap (i + 1) 1, len - (i + 1), cap - (i + 1)⟩ (s1.sel (As := rfL q (bs.drop (i + 1)) 0 ⟨cutA ad cap (i + 1) 1, len - (i + 1), cap - (i + 1)⟩) (by dsimp only [rfL]; exact (by repeat (first | exact SelL.nil | exact SelL.self | apply SelL.cons | exact Sel.here | apply Sel.there | apply SelL.skip))))
          · skip
            have hc58 := of_decide_eq_false hc58
            rw [unitW (by omega)]
            refine WK.skip ?_
            refine WK.endBlock ?_
            refine WK.region ?_
            refine WL.yld (wanted_plain (by rfl)) (yld_move (by rfl)) (by rfl) (by decide) ?_
            refine WL.yld (wanted_plain (by rfl)) (yld_add (by rfl) (by rfl) (by first | exact w64 (by omega) (by omega) | rfl)) (by rfl) (by decide) ?_
            refine WL.yld (wanted_plain (by rfl)) (yld_assign (by rfl)) (by rfl) (by decide) ?_
            refine WL.done ?_
            have hs := shl_or (c := c.toNat % 128) hi9 hn (by omega) (by omega)
            exact WK.next hN (i + 1, n + c.toNat % 128 * 2 ^ (7 * i), 0) ⟨by dsimp only; omega, .inl ⟨rfl, rfl, by dsimp only; omega, hs.1, by dsimp only; rw [hu, drop_at hc, uintR_more (by omega) (by omega)]⟩⟩ (by dsimp only; omega) (by repeat (first | exact KK.nil | refine KK.cons (by first | rfl | (simp; done)) ?_)) (by repeat (first | exact SelL.nil | exact SelL.self | apply SelL.cons | exact Sel.here | apply Sel.there | apply SelL.skip))
  · skip
    have hc11 := of_decide_eq_false hc11
    refine WK.exit ?_
    repeat (first | refine XQ.then_ ?_ | refine XQ.block (by rfl) ?_)
    refine XQ.here ?_
    refine WK.seq ?_
    refine WK.region ?_
    refine WL.yld (wanted_plain (by rfl)) (yld_assign (by rfl)) (by rfl) (by decide) ?_
    refine WL.done ?_
    refine WK.ret ?_
    repeat (first | refine RQ.block ?_ | refine RQ.then_ ?_)
    refine RQ.body (results1 (by rfl) (by rfl)) (fun w s => ?_)
    rcases hst with h | h
    · exact absurd h.1 (by omega)
    · refine ⟨(bs, e'), ?_, ?_, ?_⟩
      · rw [show uintE bs e = none from if_neg (by rw [h.2]; exact h.1)]; exact h.1
      · rw [show uintE bs e = none from if_neg (by rw [h.2]; exact h.1)]; rfl
      · exact Sat.rfShut ⟨ad, len, cap⟩ (s.sel (As := rfL q bs e' ⟨ad, len, cap⟩) (by dsimp only [rfL]; exact (by repeat (first | exact SelL.nil | exact SelL.self | apply SelL.cons | exact Sel.here | apply Sel.there | apply SelL.skip))))
set_option maxRecDepth 20000 in
set_option maxHeartbeats 1000000 in
theorem back_spec (z : Nat) (hz : z < 18446744073709551616) :
    Triple Try.prog 71 #[.int .u64 (z : Int)] [] (Unit) (fun _ => True) (fun _ => .int .i64 (unzig z)) (fun _ => []) := by
  refine Triple.of_body (args := [.int .u64 (z : Int)]) Try.func71 rfl Try.ntmps71 (by simp) (fun g F => ?_)
  dsimp only [numb, List.cons_append, List.nil_append]
  refine WK.seq ?_
  refine WK.region ?_
  refine WL.yld (wanted_plain (by rfl)) (yld_assign (by rfl)) (by rfl) (by decide) ?_
  refine WL.done ?_
  refine WK.seq ?_
  refine WK.seq ?_
  refine WK.region ?_
  refine WL.yld (wanted_plain (by rfl)) (yld_move (by rfl)) (by rfl) (by decide) ?_
  refine WL.yld (wanted_plain (by rfl)) (yld_rem (by rfl) (by rfl) (by omega) (by exact tmodN z 2)) (by rfl) (by decide) ?_
  refine WL.yld (wanted_plain (by rfl)) (yld_eql (by rfl) (by rfl)) (by rfl) (by decide) ?_
  refine WL.done ?_
  refine WK.cond (by rfl) (fun hc5 => ?_) (fun hc5 => ?_)
  · skip
    have hc5 := of_decide_eq_true hc5
    refine WK.seq ?_
    refine WK.region ?_
    refine WL.yld (wanted_plain (by rfl)) (yld_move (by rfl)) (by rfl) (by decide) ?_
    refine WL.yld (wanted_plain (by rfl)) (yld_quo (by rfl) (by rfl) (by omega) (by exact quoN (b := 2) hz)) (by rfl) (by decide) ?_
    refine WL.yld (wanted_plain (by rfl)) (yld_convInt (by rfl) (by exact Try.runUnderlying75) (by exact Try.runUnderlying3) (by exact w64 (by omega) (by omega))) (by rfl) (by decide) ?_
    refine WL.yld (wanted_plain (by rfl)) (yld_neg (by rfl) (by first | exact w64 (by omega) (by omega) | rfl)) (by rfl) (by decide) ?_
    refine WL.yld (wanted_plain (by rfl)) (yld_sub (by rfl) (by rfl) (by first | exact w64 (by omega) (by omega) | rfl)) (by rfl) (by decide) ?_
    refine WL.yld (wanted_plain (by rfl)) (yld_assign (by rfl)) (by rfl) (by decide) ?_
    refine WL.done ?_
    refine WK.ret ?_
    repeat (first | refine RQ.block ?_ | refine RQ.then_ ?_)
    refine RQ.body (results1 (by rfl) (by rfl)) (fun w s => ?_)
    refine ⟨(), trivial, ?_, s⟩
    rw [show unzig z = -((z / 2 : Nat) : Int) - 1 from if_neg (by omega)]
  · skip
    have hc5 := of_decide_eq_false hc5
    refine WK.skip ?_
    refine WK.seq ?_
    refine WK.region ?_
    refine WL.yld (wanted_plain (by rfl)) (yld_move (by rfl)) (by rfl) (by decide) ?_
    refine WL.yld (wanted_plain (by rfl)) (yld_quo (by rfl) (by rfl) (by omega) (by exact quoN (b := 2) hz)) (by rfl) (by decide) ?_
    refine WL.yld (wanted_plain (by rfl)) (yld_convInt (by rfl) (by exact Try.runUnderlying75) (by exact Try.runUnderlying3) (by exact w64 (by omega) (by omega))) (by rfl) (by decide) ?_
    refine WL.yld (wanted_plain (by rfl)) (yld_assign (by rfl)) (by rfl) (by decide) ?_
    refine WL.done ?_
    refine WK.ret ?_
    repeat (first | refine RQ.block ?_ | refine RQ.then_ ?_)
    refine RQ.body (results1 (by rfl) (by rfl)) (fun w s => ?_)
    refine ⟨(), trivial, ?_, s⟩
    rw [show unzig z = ((z / 2 : Nat) : Int) from if_pos (by omega)]
set_option maxRecDepth 20000 in
set_option maxHeartbeats 1000000 in
theorem rfInt_spec (q : Nat) (bs : List UInt8) (e : Int) :
    Triple Try.prog 58 #[.pointer (some ⟨q, 0, none⟩)] [rfR q bs e] (List UInt8 × Int) (fun x => match uintE bs e with | some r => x = (r.2, 0) | none => x.2 ≠ 0) (fun _ => .int .i64 (unzig (((uintE bs e).map Prod.fst).getD 0))) (fun x => [rfR q x.1 x.2]) := by
  refine Triple.of_body (args := [.pointer (some ⟨q, 0, none⟩)]) Try.func58 rfl Try.ntmps58 (by simp) (fun g F => ?_)
  dsimp only [numb, List.cons_append, List.nil_append]
  refine WK.seq ?_
  refine WK.region ?_
  refine WL.yld (wanted_plain (by rfl)) (yld_assign (by rfl)) (by rfl) (by decide) ?_
  refine WL.done ?_
  refine WK.seq ?_
  refine WK.region ?_
  refine WL.yld (wanted_plain (by rfl)) (yld_move (by rfl)) (by rfl) (by decide) ?_
  refine WL.eff (wanted_plain (by rfl)) (eff_call (by exact Try.call56) (by repeat (first | exact Evs.nil | apply Evs.cons | rfl)) (by repeat (first | exact SelL.nil | exact SelL.self | apply SelL.cons | exact Sel.here | apply Sel.there | apply SelL.skip)) (rfUint_spec q bs e)) (by rfl) (by decide) ?_
  rintro x4 hx4
  try dsimp only
  refine WL.eff (wanted_plain (by rfl)) (eff_call (by exact Try.call71) (by repeat (first | exact Evs.nil | apply Evs.cons | rfl)) (by repeat (first | exact SelL.nil | exact SelL.self | apply SelL.cons | exact Sel.here | apply Sel.there | apply SelL.skip)) (back_spec _ (uintE_lt bs e))) (by rfl) (by decide) ?_
  rintro _ -
  try dsimp only
  refine WL.yld (wanted_plain (by rfl)) (yld_assign (by rfl)) (by rfl) (by decide) ?_
  refine WL.done ?_
  refine WK.ret ?_
  repeat (first | refine RQ.block ?_ | refine RQ.then_ ?_)
  refine RQ.body (results1 (by rfl) (by rfl)) (fun w s => ?_)
  exact ⟨x4, hx4, rfl, s⟩
set_option maxRecDepth 20000 in
set_option maxHeartbeats 2000000 in
theorem rfLen_spec (q : Nat) (bs : List UInt8) (e : Int) (hb : e = 0 → bs.length ≤ 1000000) :
    Triple Try.prog 70 #[.pointer (some ⟨q, 0, none⟩)] [rfR q bs e] (List UInt8 × Int) (fun x => match lenE bs e with | some r => x = (r.2, 0) | none => x.2 ≠ 0) (fun _ => .int .i64 ((lenV bs e : Nat) : Int)) (fun x => [rfR q x.1 x.2]) := by
  refine Triple.of_body (args := [.pointer (some ⟨q, 0, none⟩)]) Try.func70 rfl Try.ntmps70 (by simp) (fun g F => ?_)
  dsimp only [numb, List.cons_append, List.nil_append]
  refine WK.seq ?_
  refine WK.region ?_
  refine WL.yld (wanted_plain (by rfl)) (yld_assign (by rfl)) (by rfl) (by decide) ?_
  refine WL.done ?_
  refine WK.seq ?_
  refine WK.region ?_
  refine WL.yld (wanted_plain (by rfl)) (yld_move (by rfl)) (by rfl) (by decide) ?_
  refine WL.eff (wanted_plain (by rfl)) (eff_call (by exact Try.call56) (by repeat (first | exact Evs.nil | apply Evs.cons | rfl)) (by repeat (first | exact SelL.nil | exact SelL.self | apply SelL.cons | exact Sel.here | apply Sel.there | apply SelL.skip)) (rfUint_spec q bs e)) (by rfl) (by decide) ?_
  rintro ⟨bs1, e1⟩ hx5
  try dsimp only
  refine WL.yld (wanted_plain (by rfl)) (yld_assign (by rfl)) (by rfl) (by decide) ?_
  refine WL.done ?_
  refine WK.seq ?_
  refine WK.seq ?_
  rcases hu : uintE bs e with _ | ⟨n, r⟩
  · skip
    rw [hu] at hx5
    have hr : lenE bs e = none := by unfold lenE; rw [hu]
    rw [show lenV bs e = 0 from by unfold lenV; rw [hr]; rfl, hr]
    dsimp only [Option.map, Option.getD] at hx5 ⊢
    refine WK.openS (fun w s => Sat.rfOpen (s.sel1 (A := rfR q bs1 e1) (by repeat (first | exact .here | apply Sel.there)))) ?_
    rintro ⟨ad, len, cap⟩ -
    dsimp only [rfL, List.cons_append, List.nil_append]
    refine WK.region ?_
    refine WL.yld (wanted_plain (by rfl)) (yld_move (by rfl)) (by rfl) (by decide) ?_
    refine WL.yld (wanted_plain (by rfl)) (yld_nilCheck (by rfl)) (by rfl) (by decide) ?_
    refine WL.yld (wanted_plain (by rfl)) (yld_fieldAddr (by rfl) (by exact Try.runUnderlying99) (by rfl) (by exact Try.sizeOf32) (by rfl) (by rfl)) (by rfl) (by decide) ?_
    refine WL.yld (wanted_plain (by rfl)) (yld_load (by rfl) (by exact Try.isAgg32) (by repeat (first | exact .here | apply Sel.there)) (by rfl)) (by rfl) (by decide) ?_
    refine WL.yld (wanted_plain (by rfl)) (yld_eql (by rfl) (by rfl)) (by rfl) (by decide) ?_
    refine WL.yld (wanted_plain (by rfl)) (yld_move (by rfl)) (by rfl) (by decide) ?_
    refine WL.split (d := 11) (by rfl) (fun hc11 => ?_) (fun hc11 => ?_)
    · skip
      have hc11 := of_decide_eq_true hc11
      exact (hx5 hc11).elim
    · skip
      have hc11 := of_decide_eq_false hc11
      refine WL.skip (unwanted_some (by rfl) (by rfl) (by rfl) (by rfl)) (by rfl) (by decide) ?_
      refine WL.skip (unwanted_some (by rfl) (by rfl) (by rfl) (by rfl)) (by rfl) (by decide) ?_
      refine WL.skip (unwanted_some (by rfl) (by rfl) (by rfl) (by rfl)) (by rfl) (by decide) ?_
      refine WL.skip (unwanted_some (by rfl) (by rfl) (by rfl) (by rfl)) (by rfl) (by decide) ?_
      refine WL.skip (unwanted_some (by rfl) (by rfl) (by rfl) (by rfl)) (by rfl) (by decide) ?_
      refine WL.skip (unwanted_some (by rfl) (by rfl) (by rfl) (by rfl)) (by rfl) (by decide) ?_
      refine WL.skip (unwanted_some (by rfl) (by rfl) (by rfl) (by rfl)) (by rfl) (by decide) ?_
      refine WL.skip (unwanted_some (by rfl) (by rfl) (by rfl) (by rfl)) (by rfl) (by decide) ?_
      refine WL.yld (wanted_plain (by rfl)) (yld_pick_false (by rfl) (by rfl)) (by rfl) (by decide) ?_
      refine WL.done ?_
      refine WK.cond (by rfl) (fun h => by cases h) (fun _ => ?_)
      refine WK.skip ?_
      refine WK.seq ?_
      refine WK.seq ?_
      refine WK.region ?_
      refine WL.yld (wanted_plain (by rfl)) (yld_move (by rfl)) (by rfl) (by decide) ?_
      refine WL.yld (wanted_plain (by rfl)) (yld_nilCheck (by rfl)) (by rfl) (by decide) ?_
      refine WL.yld (wanted_plain (by rfl)) (yld_fieldAddr (by rfl) (by exact Try.runUnderlying99) (by rfl) (by exact Try.sizeOf32) (by rfl) (by rfl)) (by rfl) (by decide) ?_
      refine WL.yld (wanted_plain (by rfl)) (yld_load (by rfl) (by exact Try.isAgg32) (by repeat (first | exact .here | apply Sel.there)) (by rfl)) (by rfl) (by decide) ?_
      refine WL.yld (wanted_plain (by rfl)) (yld_neq (by rfl) (by rfl)) (by rfl) (by decide) ?_
      refine WL.done ?_
      refine WK.cond (by rfl) (fun hc28 => ?_) (fun hc28 => ?_)
      · skip
        have hc28 := of_decide_eq_true hc28
        refine WK.seq ?_
        refine WK.region ?_
        refine WL.yld (wanted_plain (by rfl)) (yld_assign (by rfl)) (by rfl) (by decide) ?_
        refine WL.done ?_
        refine WK.ret ?_
        repeat (first | refine RQ.block ?_ | refine RQ.then_ ?_)
        refine RQ.body (results1 (by rfl) (by rfl)) (fun w s => ?_)
        exact ⟨(bs1, e1), by exact hx5, rfl, Sat.rfShut ⟨ad, len, cap⟩ (s.sel (As := rfL q bs1 e1 ⟨ad, len, cap⟩) (by dsimp only [rfL]; exact (by repeat (first | exact SelL.nil | exact SelL.self | apply SelL.cons | exact Sel.here | apply Sel.there | apply SelL.skip))))⟩
      · skip
        have hc28 := of_decide_eq_false hc28
        exact (hc28 hx5).elim
  · skip
    obtain ⟨hn, hrl⟩ := uintE_some hu
    have hb := hb (uintE_e hu)
    rw [hu] at hx5
    cases hx5
    dsimp only [Option.map, Option.getD]
    refine WK.openS (fun w s => Sat.rfOpen (s.sel1 (A := rfR q r 0) (by repeat (first | exact .here | apply Sel.there)))) ?_
    rintro ⟨ad, len, cap⟩ -
    dsimp only [rfL, List.cons_append, List.nil_append]
    refine WK.know (fun w s => Sat.slLen (s.sel1 (A := sl false 5 1 ad len cap (r.map bv)) (by repeat (first | exact .here | apply Sel.there)))) (fun hkn => ?_)
    obtain ⟨n1, n1c, -⟩ := hkn
    simp only [Nat.mul_one, List.length_map] at n1
    refine WK.region ?_
    refine WL.yld (wanted_plain (by rfl)) (yld_move (by rfl)) (by rfl) (by decide) ?_
    refine WL.yld (wanted_plain (by rfl)) (yld_nilCheck (by rfl)) (by rfl) (by decide) ?_
    refine WL.yld (wanted_plain (by rfl)) (yld_fieldAddr (by rfl) (by exact Try.runUnderlying99) (by rfl) (by exact Try.sizeOf32) (by rfl) (by rfl)) (by rfl) (by decide) ?_
    refine WL.yld (wanted_plain (by rfl)) (yld_load (by rfl) (by exact Try.isAgg32) (by repeat (first | exact .here | apply Sel.there)) (by rfl)) (by rfl) (by decide) ?_
    refine WL.yld (wanted_plain (by rfl)) (yld_eql (by rfl) (by rfl)) (by rfl) (by decide) ?_
    refine WL.yld (wanted_plain (by rfl)) (yld_move (by rfl)) (by rfl) (by decide) ?_
    refine WL.split (d := 11) (by rfl) (fun hc11 => ?_) (fun hc11 => ?_)
    · skip
      have hc11 := of_decide_eq_true hc11
      refine WL.yld (wanted_some (by rfl) (by rfl) (by rfl)) (yld_move (by rfl)) (by rfl) (by decide) ?_
      refine WL.yld (wanted_some (by rfl) (by rfl) (by rfl)) (yld_move (by rfl)) (by rfl) (by decide) ?_
      refine WL.yld (wanted_some (by rfl) (by rfl) (by rfl)) (yld_nilCheck (by rfl)) (by rfl) (by decide) ?_
      refine WL.yld (wanted_some (by rfl) (by rfl) (by rfl)) (yld_fieldAddr (by rfl) (by exact Try.runUnderlying99) (by rfl) (by exact Try.sizeOf31) (by rfl) (by rfl)) (by rfl) (by decide) ?_
      refine WL.yld (wanted_some (by rfl) (by rfl) (by rfl)) (yld_load (by rfl) (by exact Try.isAgg31) (by repeat (first | exact .here | apply Sel.there)) (by rfl)) (by rfl) (by decide) ?_
      refine WL.yld (wanted_some (by rfl) (by rfl) (by rfl)) (yld_len (by rfl) (by exact Try.runUnderlying31)) (by rfl) (by decide) ?_
      refine WL.yld (wanted_some (by rfl) (by rfl) (by rfl)) (yld_convInt (by rfl) (by exact Try.runUnderlying3) (by exact Try.runUnderlying75) (by exact wU64 (by omega) (by omega))) (by rfl) (by decide) ?_
      refine WL.yld (wanted_some (by rfl) (by rfl) (by rfl)) (yld_gtr (by rfl) (by rfl)) (by rfl) (by decide) ?_
      refine WL.yld (wanted_plain (by rfl)) (yld_pick_true (by rfl) (by rfl)) (by rfl) (by decide) ?_
      refine WL.done ?_
      refine WK.cond (by rfl) (fun hc20 => ?_) (fun hc20 => ?_)
      · skip
        have hc20 := of_decide_eq_true hc20
        have hr : lenE bs e = none := by unfold lenE; rw [hu]; exact if_neg (by omega)
        rw [show lenV bs e = 0 from by unfold lenV; rw [hr]; rfl, hr]
        · skip
          refine WK.region ?_
          refine WL.yld (wanted_plain (by rfl)) (yld_move (by rfl)) (by rfl) (by decide) ?_
          refine WL.yld (wanted_plain (by rfl)) (yld_nilCheck (by rfl)) (by rfl) (by decide) ?_
          refine WL.yld (wanted_plain (by rfl)) (yld_fieldAddr (by rfl) (by exact Try.runUnderlying99) (by rfl) (by exact Try.sizeOf32) (by rfl) (by rfl)) (by rfl) (by decide) ?_
          refine WL.eff0 (wanted_plain (by rfl)) (eff_store (by rfl) (by rfl) (by exact Try.sizeOf32) (by rfl) (by rfl) (by rfl) (by repeat (first | exact .here | apply Sel.there)) (by repeat (first | exact SetAts.nil | apply SetAts.cons | exact SetAt.here | apply SetAt.there))) (by rfl) ?_
          rintro _ -
          try dsimp only
          refine WL.done ?_
          refine WK.seq ?_
          refine WK.seq ?_
          refine WK.region ?_
          refine WL.yld (wanted_plain (by rfl)) (yld_move (by rfl)) (by rfl) (by decide) ?_
          refine WL.yld (wanted_plain (by rfl)) (yld_nilCheck (by rfl)) (by rfl) (by decide) ?_
          refine WL.yld (wanted_plain (by rfl)) (yld_fieldAddr (by rfl) (by exact Try.runUnderlying99) (by rfl) (by exact Try.sizeOf32) (by rfl) (by rfl)) (by rfl) (by decide) ?_
          refine WL.yld (wanted_plain (by rfl)) (yld_load (by rfl) (by exact Try.isAgg32) (by repeat (first | exact .here | apply Sel.there)) (by rfl)) (by rfl) (by decide) ?_
          refine WL.yld (wanted_plain (by rfl)) (yld_neq (by rfl) (by rfl)) (by rfl) (by decide) ?_
          refine WL.done ?_
          refine WK.cond (by rfl) (fun hc28 => ?_) (fun hc28 => ?_)
          · skip
            have hc28 := of_decide_eq_true hc28
            refine WK.seq ?_
            refine WK.region ?_
            refine WL.yld (wanted_plain (by rfl)) (yld_assign (by rfl)) (by rfl) (by decide) ?_
            refine WL.done ?_
            refine WK.ret ?_
            repeat (first | refine RQ.block ?_ | refine RQ.then_ ?_)
            refine RQ.body (results1 (by rfl) (by rfl)) (fun w s => ?_)
            exact ⟨(r, 3), by simp, rfl, Sat.rfShut ⟨ad, len, cap⟩ (s.sel (As := rfL q r 3 ⟨ad, len, cap⟩) (by dsimp only [rfL]; exact (by repeat (first | exact SelL.nil | exact SelL.self | apply SelL.cons | exact Sel.here | apply Sel.there | apply SelL.skip))))⟩
          · skip
            have hc28 := of_decide_eq_false hc28
            simp at hc28
      · skip
        have hc20 := of_decide_eq_false hc20
        have hr : lenE bs e = some (n, r) := by unfold lenE; rw [hu]; exact if_pos (by omega)
        rw [show lenV bs e = n from by unfold lenV; rw [hr]; rfl, hr]
        refine WK.skip ?_
        refine WK.seq ?_
        refine WK.seq ?_
        refine WK.region ?_
        refine WL.yld (wanted_plain (by rfl)) (yld_move (by rfl)) (by rfl) (by decide) ?_
        refine WL.yld (wanted_plain (by rfl)) (yld_nilCheck (by rfl)) (by rfl) (by decide) ?_
        refine WL.yld (wanted_plain (by rfl)) (yld_fieldAddr (by rfl) (by exact Try.runUnderlying99) (by rfl) (by exact Try.sizeOf32) (by rfl) (by rfl)) (by rfl) (by decide) ?_
        refine WL.yld (wanted_plain (by rfl)) (yld_load (by rfl) (by exact Try.isAgg32) (by repeat (first | exact .here | apply Sel.there)) (by rfl)) (by rfl) (by decide) ?_
        refine WL.yld (wanted_plain (by rfl)) (yld_neq (by rfl) (by rfl)) (by rfl) (by decide) ?_
        refine WL.done ?_
        refine WK.cond (by rfl) (fun hc28 => ?_) (fun hc28 => ?_)
        · skip
          have hc28 := of_decide_eq_true hc28
          exact (hc28 rfl).elim
        · skip
          have hc28 := of_decide_eq_false hc28
          refine WK.skip ?_
          refine WK.seq ?_
          refine WK.region ?_
          refine WL.yld (wanted_plain (by rfl)) (yld_move (by rfl)) (by rfl) (by decide) ?_
          refine WL.yld (wanted_plain (by rfl)) (yld_convInt (by rfl) (by exact Try.runUnderlying75) (by exact Try.runUnderlying3) (by first | exact w64 (by omega) (by omega) | rfl)) (by rfl) (by decide) ?_
          refine WL.yld (wanted_plain (by rfl)) (yld_assign (by rfl)) (by rfl) (by decide) ?_
          refine WL.done ?_
          refine WK.ret ?_
          repeat (first | refine RQ.block ?_ | refine RQ.then_ ?_)
          refine RQ.body (results1 (by rfl) (by rfl)) (fun w s => ?_)
          exact ⟨(r, 0), rfl, rfl, Sat.rfShut ⟨ad, len, cap⟩ (s.sel (As := rfL q r 0 ⟨ad, len, cap⟩) (by dsimp only [rfL]; exact (by repeat (first | exact SelL.nil | exact SelL.self | apply SelL.cons | exact Sel.here | apply Sel.there | apply SelL.skip))))⟩
    · skip
      have hc11 := of_decide_eq_false hc11
      exact (hc11 rfl).elim
set_option maxRecDepth 20000 in
set_option maxHeartbeats 1000000 in
theorem rfRaw_spec (q : Nat) (bs : List UInt8) (e : Int) (hb : e = 0 → bs.length ≤ 1000000) :
    Triple Try.prog 55 #[.pointer (some ⟨q, 0, none⟩)] [rfR q bs e] ((List UInt8 × Int) × (Option Addr × Nat × Nat)) (fun x => match rawE bs e with | some r => x.1 = (r.2, 0) ∧ x.2.2.1 = r.1.length | none => x.1.2 ≠ 0 ∧ x.2 = (none, 0, 0)) (fun x => .slice x.2.1 x.2.2.1 x.2.2.2) (fun x => [rfR q x.1.1 x.1.2, sl false 5 1 x.2.1 x.2.2.1 x.2.2.2 ((rawV bs e).map bv)]) := by
  refine Triple.of_body (args := [.pointer (some ⟨q, 0, none⟩)]) Try.func55 rfl Try.ntmps55 (by simp) (fun g F => ?_)
  dsimp only [numb, List.cons_append, List.nil_append]
  refine WK.seq ?_
  refine WK.region ?_
  refine WL.yld (wanted_plain (by rfl)) (yld_assign (by rfl)) (by rfl) (by decide) ?_
  refine WL.done ?_
  refine WK.seq ?_
  refine WK.region ?_
  refine WL.yld (wanted_plain (by rfl)) (yld_move (by rfl)) (by rfl) (by decide) ?_
  refine WL.eff (wanted_plain (by rfl)) (eff_call (by exact Try.call70) (by repeat (first | exact Evs.nil | apply Evs.cons | rfl)) (by repeat (first | exact SelL.nil | exact SelL.self | apply SelL.cons | exact Sel.here | apply Sel.there | apply SelL.skip)) (rfLen_spec q bs e hb)) (by rfl) (by decide) ?_
  rintro ⟨bs1, e1⟩ hx6
  try dsimp only
  refine WL.yld (wanted_plain (by rfl)) (yld_assign (by rfl)) (by rfl) (by decide) ?_
  refine WL.done ?_
  refine WK.seq ?_
  refine WK.seq ?_
  rcases hu : lenE bs e with _ | ⟨n, r⟩
  · skip
    rw [hu] at hx6
    have hr : rawE bs e = none := by rw [rawE_len, hu]; rfl
    rw [show rawV bs e = [] from by unfold rawV; rw [hr]; rfl, hr]
    dsimp only at hx6 ⊢
    refine WK.openS (fun w s => Sat.rfOpen (s.sel1 (A := rfR q bs1 e1) (by repeat (first | exact .here | apply Sel.there)))) ?_
    rintro ⟨ad, len, cap⟩ -
    dsimp only [rfL, List.cons_append, List.nil_append]
    refine WK.region ?_
    refine WL.yld (wanted_plain (by rfl)) (yld_move (by rfl)) (by rfl) (by decide) ?_
    refine WL.yld (wanted_plain (by rfl)) (yld_nilCheck (by rfl)) (by rfl) (by decide) ?_
    refine WL.yld (wanted_plain (by rfl)) (yld_fieldAddr (by rfl) (by exact Try.runUnderlying99) (by rfl) (by exact Try.sizeOf32) (by rfl) (by rfl)) (by rfl) (by decide) ?_
    refine WL.yld (wanted_plain (by rfl)) (yld_load (by rfl) (by exact Try.isAgg32) (by repeat (first | exact .here | apply Sel.there)) (by rfl)) (by rfl) (by decide) ?_
    refine WL.yld (wanted_plain (by rfl)) (yld_neq (by rfl) (by rfl)) (by rfl) (by decide) ?_
    refine WL.done ?_
    refine WK.cond (by rfl) (fun hc11 => ?_) (fun hc11 => ?_)
    · skip
      have hc11 := of_decide_eq_true hc11
      refine WK.seq ?_
      refine WK.region ?_
      refine WL.yld (wanted_plain (by rfl)) (yld_assign (by rfl)) (by rfl) (by decide) ?_
      refine WL.done ?_
      refine WK.ret ?_
      repeat (first | refine RQ.block ?_ | refine RQ.then_ ?_)
      refine RQ.body (results1 (by rfl) (by rfl)) (fun w s => ?_)
      exact ⟨((bs1, e1), (none, 0, 0)), ⟨hx6, rfl⟩, rfl, Sat.toCs (Sat.nilSl (Sat.rfShut ⟨ad, len, cap⟩ (s.sel (As := rfL q bs1 e1 ⟨ad, len, cap⟩) (by dsimp only [rfL]; exact (by repeat (first | exact SelL.nil | exact SelL.self | apply SelL.cons | exact Sel.here | apply Sel.there | apply SelL.skip))))) false 5 1) (by repeat (first | exact SelL.nil | exact SelL.self | apply SelL.cons | exact Sel.here | apply Sel.there | apply SelL.skip))⟩
    · skip
      have hc11 := of_decide_eq_false hc11
      exact (hc11 hx6).elim
  · skip
    obtain ⟨hn, hrl⟩ := lenE_le hu
    have hb := hb (lenE_e hu)
    rw [hu] at hx6
    cases hx6
    have hr : rawE bs e = some (r.take n, r.drop n) := by rw [rawE_len, hu]; rfl
    rw [show rawV bs e = r.take n from by unfold rawV; rw [hr]; rfl, hr, show lenV bs e = n from by unfold lenV; rw [hu]; rfl]
    dsimp only
    refine WK.openS (fun w s => Sat.rfOpen (s.sel1 (A := rfR q r 0) (by repeat (first | exact .here | apply Sel.there)))) ?_
    rintro ⟨ad, len, cap⟩ -
    dsimp only [rfL, List.cons_append, List.nil_append]
    refine WK.know (fun w s => Sat.slLen (s.sel1 (A := sl false 5 1 ad len cap (r.map bv)) (by repeat (first | exact .here | apply Sel.there)))) (fun hkn => ?_)
    obtain ⟨n1, n1c, -⟩ := hkn
    simp only [Nat.mul_one, List.length_map] at n1
    refine WK.region ?_
    refine WL.yld (wanted_plain (by rfl)) (yld_move (by rfl)) (by rfl) (by decide) ?_
    refine WL.yld (wanted_plain (by rfl)) (yld_nilCheck (by rfl)) (by rfl) (by decide) ?_
    refine WL.yld (wanted_plain (by rfl)) (yld_fieldAddr (by rfl) (by exact Try.runUnderlying99) (by rfl) (by exact Try.sizeOf32) (by rfl) (by rfl)) (by rfl) (by decide) ?_
    refine WL.yld (wanted_plain (by rfl)) (yld_load (by rfl) (by exact Try.isAgg32) (by repeat (first | exact .here | apply Sel.there)) (by rfl)) (by rfl) (by decide) ?_
    refine WL.yld (wanted_plain (by rfl)) (yld_neq (by rfl) (by rfl)) (by rfl) (by decide) ?_
    refine WL.done ?_
    refine WK.cond (by rfl) (fun hc11 => ?_) (fun hc11 => ?_)
    · skip
      have hc11 := of_decide_eq_true hc11
      exact (hc11 rfl).elim
    · skip
      have hc11 := of_decide_eq_false hc11
      refine WK.skip ?_
      refine WK.seq ?_
      refine WK.region ?_
      refine WL.yld (wanted_plain (by rfl)) (yld_move (by rfl)) (by rfl) (by decide) ?_
      refine WL.yld (wanted_plain (by rfl)) (yld_nilCheck (by rfl)) (by rfl) (by decide) ?_
      refine WL.yld (wanted_plain (by rfl)) (yld_fieldAddr (by rfl) (by exact Try.runUnderlying99) (by rfl) (by exact Try.sizeOf31) (by rfl) (by rfl)) (by rfl) (by decide) ?_
      refine WL.yld (wanted_plain (by rfl)) (yld_load (by rfl) (by exact Try.isAgg31) (by repeat (first | exact .here | apply Sel.there)) (by rfl)) (by rfl) (by decide) ?_
      refine WL.yld (wanted_plain (by rfl)) (yld_move (by rfl)) (by rfl) (by decide) ?_
      refine WL.yld (wanted_plain (by rfl)) (yld_slice_hi (by rfl) (by rfl) (by exact Try.runUnderlying31) (by exact Try.sizeOf5) (n) (by first | rfl | omega) (by omega)) (by rfl) (by decide) ?_
      refine WL.yld (wanted_plain (by rfl)) (yld_assign (by rfl)) (by rfl) (by decide) ?_
      refine WL.done ?_
      refine WK.seq ?_
      refine WK.region ?_
      refine WL.yld (wanted_plain (by rfl)) (yld_move (by rfl)) (by rfl) (by decide) ?_
      refine WL.yld (wanted_plain (by rfl)) (yld_move (by rfl)) (by rfl) (by decide) ?_
      refine WL.yld (wanted_plain (by rfl)) (yld_nilCheck (by rfl)) (by rfl) (by decide) ?_
      refine WL.yld (wanted_plain (by rfl)) (yld_fieldAddr (by rfl) (by exact Try.runUnderlying99) (by rfl) (by exact Try.sizeOf31) (by rfl) (by rfl)) (by rfl) (by decide) ?_
      refine WL.yld (wanted_plain (by rfl)) (yld_load (by rfl) (by exact Try.isAgg31) (by repeat (first | exact .here | apply Sel.there)) (by rfl)) (by rfl) (by decide) ?_
      refine WL.yld (wanted_plain (by rfl)) (yld_move (by rfl)) (by rfl) (by decide) ?_
      refine WL.yld (wanted_plain (by rfl)) (yld_slice_lo (by rfl) (by rfl) (by exact Try.runUnderlying31) (by exact Try.sizeOf5) (n) (by first | rfl | omega) (by omega)) (by rfl) (by decide) ?_
      refine WL.yld (wanted_plain (by rfl)) (yld_nilCheck (by rfl)) (by rfl) (by decide) ?_
      refine WL.yld (wanted_plain (by rfl)) (yld_fieldAddr (by rfl) (by exact Try.runUnderlying99) (by rfl) (by exact Try.sizeOf31) (by rfl) (by rfl)) (by rfl) (by decide) ?_
      refine WL.eff0 (wanted_plain (by rfl)) (eff_store (by rfl) (by rfl) (by exact Try.sizeOf31) (by rfl) (by rfl) (by rfl) (by repeat (first | exact .here | apply Sel.there)) (by repeat (first | exact SetAts.nil | apply SetAts.cons | exact SetAt.here | apply SetAt.there))) (by rfl) ?_
      rintro _ -
      try dsimp only
      refine WL.done ?_
      refine WK.seq ?_
      refine WK.region ?_
      refine WL.yld (wanted_plain (by rfl)) (yld_move (by rfl)) (by rfl) (by decide) ?_
      refine WL.yld (wanted_plain (by rfl)) (yld_assign (by rfl)) (by rfl) (by decide) ?_
      refine WL.done ?_
      refine WK.ret ?_
      repeat (first | refine RQ.block ?_ | refine RQ.then_ ?_)
      refine RQ.body (results1 (by rfl) (by rfl)) (fun w s => ?_)
      refine ⟨((r.drop n, 0), (ad, n, cap)), ⟨rfl, by rw [List.length_take]; dsimp only; omega⟩, rfl, ?_⟩
      have s0 := (s.sel1 (A := sl false 5 1 ad len cap (r.map bv)) (by repeat (first | exact .here | apply Sel.there))).dup (dup_sl _ _ _ _ _ _)
      have s1 := s0.slHead n (by omega)
      rw [Nat.mul_one, ← List.map_take] at s1
      have s2 := (s1.sel1 (A := sl false 5 1 ad len cap (r.map bv)) (by repeat (first | exact .here | apply Sel.there))).slTail n (by omega)
      rw [Nat.mul_one, ← List.map_drop] at s2
      exact Sat.toCs (Sat.rfShut ⟨cutA ad cap n 1, len - n, cap - n⟩ (s2.sel (As := rfL q (r.drop n) 0 ⟨cutA ad cap n 1, len - n, cap - n⟩) (by dsimp only [rfL]; exact (by repeat (first | exact SelL.nil | exact SelL.self | apply SelL.cons | exact Sel.here | apply Sel.there | apply SelL.skip))))) (by repeat (first | exact SelL.nil | exact SelL.self | apply SelL.cons | exact Sel.here | apply Sel.there | apply SelL.skip))
set_option maxRecDepth 20000 in
set_option maxHeartbeats 1000000 in
theorem rfEnd_spec (q : Nat) (bs : List UInt8) (e : Int) :
    Triple Try.prog 57 #[.pointer (some ⟨q, 0, none⟩)] [rfR q bs e] (Unit) (fun _ => True) (fun _ => .int .i64 (if e = 0 ∧ bs ≠ [] then 2 else e)) (fun _ => [rfR q bs e]) := by
  refine Triple.rfOpen ?_
  rintro ⟨ad, len, cap⟩
  dsimp only [rfL]
  refine Triple.of_body (args := [.pointer (some ⟨q, 0, none⟩)]) Try.func57 rfl Try.ntmps57 (by simp) (fun g F => ?_)
  dsimp only [numb, List.cons_append, List.nil_append]
  refine WK.know (fun w s => Sat.slLen (s.sel1 (A := sl false 5 1 ad len cap (bs.map bv)) (by repeat (first | exact .here | apply Sel.there)))) (fun hkn => ?_)
  obtain ⟨n1, n1c, -⟩ := hkn
  simp only [Nat.mul_one, List.length_map] at n1
  refine WK.seq ?_
  refine WK.region ?_
  refine WL.yld (wanted_plain (by rfl)) (yld_assign (by rfl)) (by rfl) (by decide) ?_
  refine WL.done ?_
  refine WK.seq ?_
  refine WK.seq ?_
  refine WK.region ?_
  refine WL.yld (wanted_plain (by rfl)) (yld_move (by rfl)) (by rfl) (by decide) ?_
  refine WL.yld (wanted_plain (by rfl)) (yld_nilCheck (by rfl)) (by rfl) (by decide) ?_
  refine WL.yld (wanted_plain (by rfl)) (yld_fieldAddr (by rfl) (by exact Try.runUnderlying99) (by rfl) (by exact Try.sizeOf32) (by rfl) (by rfl)) (by rfl) (by decide) ?_
  refine WL.yld (wanted_plain (by rfl)) (yld_load (by rfl) (by exact Try.isAgg32) (by repeat (first | exact .here | apply Sel.there)) (by rfl)) (by rfl) (by decide) ?_
  refine WL.yld (wanted_plain (by rfl)) (yld_eql (by rfl) (by rfl)) (by rfl) (by decide) ?_
  refine WL.yld (wanted_plain (by rfl)) (yld_move (by rfl)) (by rfl) (by decide) ?_
  refine WL.split (d := 8) (by rfl) (fun hc8 => ?_) (fun hc8 => ?_)
  · skip
    have hc8 := of_decide_eq_true hc8
    refine WL.yld (wanted_some (by rfl) (by rfl) (by rfl)) (yld_move (by rfl)) (by rfl) (by decide) ?_
    refine WL.yld (wanted_some (by rfl) (by rfl) (by rfl)) (yld_nilCheck (by rfl)) (by rfl) (by decide) ?_
    refine WL.yld (wanted_some (by rfl) (by rfl) (by rfl)) (yld_fieldAddr (by rfl) (by exact Try.runUnderlying99) (by rfl) (by exact Try.sizeOf31) (by rfl) (by rfl)) (by rfl) (by decide) ?_
    refine WL.yld (wanted_some (by rfl) (by rfl) (by rfl)) (yld_load (by rfl) (by exact Try.isAgg31) (by repeat (first | exact .here | apply Sel.there)) (by rfl)) (by rfl) (by decide) ?_
    refine WL.yld (wanted_some (by rfl) (by rfl) (by rfl)) (yld_len (by rfl) (by exact Try.runUnderlying31)) (by rfl) (by decide) ?_
    refine WL.yld (wanted_some (by rfl) (by rfl) (by rfl)) (yld_gtr (by rfl) (by rfl)) (by rfl) (by decide) ?_
    refine WL.yld (wanted_plain (by rfl)) (yld_pick_true (by rfl) (by rfl)) (by rfl) (by decide) ?_
    refine WL.done ?_
    refine WK.cond (by rfl) (fun hc15 => ?_) (fun hc15 => ?_)
    · skip
      have hc15 := of_decide_eq_true hc15
      refine WK.seq ?_
      refine WK.region ?_
      refine WL.yld (wanted_plain (by rfl)) (yld_assign (by rfl)) (by rfl) (by decide) ?_
      refine WL.done ?_
      refine WK.ret ?_
      repeat (first | refine RQ.block ?_ | refine RQ.then_ ?_)
      refine RQ.body (results1 (by rfl) (by rfl)) (fun w s => ?_)
      refine ⟨(), trivial, ?_, Sat.rfShut ⟨ad, len, cap⟩ (s.sel (As := rfL q bs e ⟨ad, len, cap⟩) (by dsimp only [rfL]; exact (by repeat (first | exact SelL.nil | exact SelL.self | apply SelL.cons | exact Sel.here | apply Sel.there | apply SelL.skip))))⟩
      rw [if_pos ⟨hc8, by rintro rfl; simp at n1; omega⟩]
    · skip
      have hc15 := of_decide_eq_false hc15
      refine WK.skip ?_
      refine WK.seq ?_
      refine WK.region ?_
      refine WL.yld (wanted_plain (by rfl)) (yld_move (by rfl)) (by rfl) (by decide) ?_
      refine WL.yld (wanted_plain (by rfl)) (yld_nilCheck (by rfl)) (by rfl) (by decide) ?_
      refine WL.yld (wanted_plain (by rfl)) (yld_fieldAddr (by rfl) (by exact Try.runUnderlying99) (by rfl) (by exact Try.sizeOf32) (by rfl) (by rfl)) (by rfl) (by decide) ?_
      refine WL.yld (wanted_plain (by rfl)) (yld_load (by rfl) (by exact Try.isAgg32) (by repeat (first | exact .here | apply Sel.there)) (by rfl)) (by rfl) (by decide) ?_
      refine WL.yld (wanted_plain (by rfl)) (yld_assign (by rfl)) (by rfl) (by decide) ?_
      refine WL.done ?_
      refine WK.ret ?_
      repeat (first | refine RQ.block ?_ | refine RQ.then_ ?_)
      refine RQ.body (results1 (by rfl) (by rfl)) (fun w s => ?_)
      refine ⟨(), trivial, ?_, Sat.rfShut ⟨ad, len, cap⟩ (s.sel (As := rfL q bs e ⟨ad, len, cap⟩) (by dsimp only [rfL]; exact (by repeat (first | exact SelL.nil | exact SelL.self | apply SelL.cons | exact Sel.here | apply Sel.there | apply SelL.skip))))⟩
      rw [if_neg (fun h => h.2 (List.eq_nil_of_length_eq_zero (by omega)))]
  · skip
    have hc8 := of_decide_eq_false hc8
    refine WL.skip (unwanted_some (by rfl) (by rfl) (by rfl) (by rfl)) (by rfl) (by decide) ?_
    refine WL.skip (unwanted_some (by rfl) (by rfl) (by rfl) (by rfl)) (by rfl) (by decide) ?_
    refine WL.skip (unwanted_some (by rfl) (by rfl) (by rfl) (by rfl)) (by rfl) (by decide) ?_
    refine WL.skip (unwanted_some (by rfl) (by rfl) (by rfl) (by rfl)) (by rfl) (by decide) ?_
    refine WL.skip (unwanted_some (by rfl) (by rfl) (by rfl) (by rfl)) (by rfl) (by decide) ?_
    refine WL.skip (unwanted_some (by rfl) (by rfl) (by rfl) (by rfl)) (by rfl) (by decide) ?_
    refine WL.yld (wanted_plain (by rfl)) (yld_pick_false (by rfl) (by rfl)) (by rfl) (by decide) ?_
    refine WL.done ?_
    refine WK.cond (by rfl) (fun h => by cases h) (fun _ => ?_)
    refine WK.skip ?_
    refine WK.seq ?_
    refine WK.region ?_
    refine WL.yld (wanted_plain (by rfl)) (yld_move (by rfl)) (by rfl) (by decide) ?_
    refine WL.yld (wanted_plain (by rfl)) (yld_nilCheck (by rfl)) (by rfl) (by decide) ?_
    refine WL.yld (wanted_plain (by rfl)) (yld_fieldAddr (by rfl) (by exact Try.runUnderlying99) (by rfl) (by exact Try.sizeOf32) (by rfl) (by rfl)) (by rfl) (by decide) ?_
    refine WL.yld (wanted_plain (by rfl)) (yld_load (by rfl) (by exact Try.isAgg32) (by repeat (first | exact .here | apply Sel.there)) (by rfl)) (by rfl) (by decide) ?_
    refine WL.yld (wanted_plain (by rfl)) (yld_assign (by rfl)) (by rfl) (by decide) ?_
    refine WL.done ?_
    refine WK.ret ?_
    repeat (first | refine RQ.block ?_ | refine RQ.then_ ?_)
    refine RQ.body (results1 (by rfl) (by rfl)) (fun w s => ?_)
    refine ⟨(), trivial, ?_, Sat.rfShut ⟨ad, len, cap⟩ (s.sel (As := rfL q bs e ⟨ad, len, cap⟩) (by dsimp only [rfL]; exact (by repeat (first | exact SelL.nil | exact SelL.self | apply SelL.cons | exact Sel.here | apply Sel.there | apply SelL.skip))))⟩
    rw [if_neg (fun h => hc8 h.1)]
set_option maxRecDepth 20000 in
set_option maxHeartbeats 2000000 in
theorem refWords_spec (p : Bool) (ad : Option Addr) (len cap : Nat) (bs : List UInt8) (hl : len ≤ 1000000) :
    Triple Try.prog 67 #[.slice ad len cap] [sl p 5 1 ad len cap (bs.map bv)] (Option Addr × Nat) (fun _ => True) (fun x => .slice x.1 (wordsM bs).length x.2) (fun x => [sl true 75 1 x.1 (wordsM bs).length x.2 ((wordsM bs).map fun (w : Nat) => Value.int .u64 (w : Int)), sl p 5 1 ad len cap (bs.map bv)]) := by
  refine Triple.of_body (args := [.slice ad len cap]) Try.func67 rfl Try.ntmps67 (by simp) (fun g F => ?_)
  dsimp only [numb, List.cons_append, List.nil_append]
  refine WK.know (fun w s => Sat.slLen (s.sel1 (A := sl p 5 1 ad len cap (bs.map bv)) (by repeat (first | exact .here | apply Sel.there)))) (fun hkn => ?_)
  obtain ⟨n1, n1c, -⟩ := hkn
  simp only [Nat.mul_one, List.length_map] at n1
  have hwl := wordsM_len bs
  refine WK.seq ?_
  refine WK.region ?_
  refine WL.yld (wanted_plain (by rfl)) (yld_assign (by rfl)) (by rfl) (by decide) ?_
  refine WL.done ?_
  refine WK.seq ?_
  refine WK.region ?_
  refine WL.yld (wanted_plain (by rfl)) (yld_assign (by rfl)) (by rfl) (by decide) ?_
  refine WL.done ?_
  refine WK.seq ?_
  refine WK.seq ?_
  refine WK.region ?_
  refine WL.yld (wanted_plain (by rfl)) (yld_assign (by rfl)) (by rfl) (by decide) ?_
  refine WL.done ?_
  refine WK.block ?_
  refine WK.sat (fun w s => Sat.nilSl s true 75 1) ?_
  refine WK.loop (ι := Nat × List Nat × Option Addr × Nat) (fun x => x.1 ≤ len + 8 ∧ wordsM bs = x.2.1 ++ wordsM (bs.drop x.1)) (fun x => [(0, .slice ad len cap), (3, .slice x.2.2.1 x.2.1.length x.2.2.2), (4, .int .i64 (x.1 : Int))]) (fun x => sl true 75 1 x.2.2.1 x.2.1.length x.2.2.2 ((x.2.1).map fun (w : Nat) => Value.int .u64 (w : Int)) :: sl p 5 1 ad len cap (bs.map bv) :: F) (fun x => len + 8 - x.1) ((0, [], none, 0)) (⟨Nat.zero_le _, rfl⟩) (by repeat (first | exact KK.nil | refine KK.cons (by first | rfl | (simp; done)) ?_)) (by repeat (first | exact SelL.nil | exact SelL.self | apply SelL.cons | exact Sel.here | apply Sel.there | apply SelL.skip)) ?_
  rintro ⟨i, ws, ad2, cap2⟩ ⟨hi, hw⟩ N hN
  dsimp only at hi hw ⊢
  have hwl2 := congrArg List.length hw
  simp only [List.length_append] at hwl2
  refine WK.seq ?_
  refine WK.seq ?_
  refine WK.region ?_
  refine WL.yld (wanted_plain (by rfl)) (yld_move (by rfl)) (by rfl) (by decide) ?_
  refine WL.yld (wanted_plain (by rfl)) (yld_move (by rfl)) (by rfl) (by decide) ?_
  refine WL.yld (wanted_plain (by rfl)) (yld_len (by rfl) (by exact Try.runUnderlying31)) (by rfl) (by decide) ?_
  refine WL.yld (wanted_plain (by rfl)) (yld_lss (by rfl) (by rfl)) (by rfl) (by decide) ?_
  refine WL.done ?_
  refine WK.cond (by rfl) (fun hc10 => ?_) (fun hc10 => ?_)
  · skip
    have hc10 := of_decide_eq_true hc10
    have hwd := wordsM_drop (bs := bs) (i := i) (by omega)
    rw [hwd] at hwl2
    simp only [List.length_cons] at hwl2
    refine WK.skip ?_
    refine WK.seq ?_
    refine WK.block ?_
    refine WK.seq ?_
    refine WK.region ?_
    refine WL.yld (wanted_plain (by rfl)) (yld_assign (by rfl)) (by rfl) (by decide) ?_
    refine WL.done ?_
    refine WK.seq ?_
    refine WK.seq ?_
    refine WK.region ?_
    refine WL.yld (wanted_plain (by rfl)) (yld_move (by rfl)) (by rfl) (by decide) ?_
    refine WL.yld (wanted_plain (by rfl)) (yld_add (by rfl) (by rfl) (by first | exact w64 (by omega) (by omega) | rfl)) (by rfl) (by decide) ?_
    refine WL.yld (wanted_plain (by rfl)) (yld_move (by rfl)) (by rfl) (by decide) ?_
    refine WL.yld (wanted_plain (by rfl)) (yld_len (by rfl) (by exact Try.runUnderlying31)) (by rfl) (by decide) ?_
    refine WL.yld (wanted_plain (by rfl)) (yld_min (by rfl) (by rfl)) (by rfl) (by decide) ?_
    refine WL.yld (wanted_plain (by rfl)) (yld_sub (by rfl) (by rfl) (show IntKind.i64.wrap (min ((i : Int) + 8) (len : Int) - 1) = ((min (i + 8) len : Nat) : Int) - 1 from by rw [w64 (by omega) (by omega)]; omega)) (by rfl) (by decide) ?_
    refine WL.yld (wanted_plain (by rfl)) (yld_assign (by rfl)) (by rfl) (by decide) ?_
    refine WL.done ?_
    refine WK.block ?_
    refine WK.loop (ι := Nat) (fun j => i ≤ j ∧ j ≤ min (i + 8) len) (fun j => [(0, .slice ad len cap), (3, .slice ad2 ws.length cap2), (4, .int .i64 (i : Int)), (5, .int .u64 ((leM ((bs.drop j).take (min (i + 8) len - j)) : Nat) : Int)), (6, .int .i64 ((j : Int) - 1))]) (fun j => sl true 75 1 ad2 ws.length cap2 ((ws).map fun (w : Nat) => Value.int .u64 (w : Int)) :: sl p 5 1 ad len cap (bs.map bv) :: F) (fun j => j) (min (i + 8) len) (⟨by omega, Nat.le_refl _⟩) (by refine KK.cons rfl (KK.cons rfl (KK.cons rfl (KK.cons ?_ (KK.cons ?_ KK.nil)))); rotate_left; (simp [Sep.look]); (simp [Sep.look, leM])) (by repeat (first | exact SelL.nil | exact SelL.self | apply SelL.cons | exact Sel.here | apply Sel.there | apply SelL.skip)) ?_
    rintro j ⟨hj1, hj2⟩ N2 hN2
    refine WK.seq ?_
    refine WK.seq ?_
    refine WK.region ?_
    refine WL.yld (wanted_plain (by rfl)) (yld_move (by rfl)) (by rfl) (by decide) ?_
    refine WL.yld (wanted_plain (by rfl)) (yld_move (by rfl)) (by rfl) (by decide) ?_
    refine WL.yld (wanted_plain (by rfl)) (yld_geq (by rfl) (by rfl)) (by rfl) (by decide) ?_
    refine WL.done ?_
    refine WK.cond (by rfl) (fun hc21 => ?_) (fun hc21 => ?_)
    · skip
      have hc21 := of_decide_eq_true hc21
      obtain ⟨c, hc⟩ : ∃ c, bs[j - 1]? = some c := ⟨_, List.getElem?_eq_getElem (by omega)⟩
      have hc8 := c.toNat_lt
      have hcons := leM_cons (m := min (i + 8) len) (j := j - 1) (by omega) hc
      rw [show j - 1 + 1 = j from by omega] at hcons
      have hlt := leM_lt ((bs.drop (j - 1)).take (min (i + 8) len - (j - 1)))
      have hlt2 : (2 : Nat) ^ (8 * ((bs.drop (j - 1)).take (min (i + 8) len - (j - 1))).length) ≤ 2 ^ 64 := Nat.pow_le_pow_right (by omega) (by simp; omega)
      refine WK.skip ?_
      refine WK.seq ?_
      refine WK.block ?_
      refine WK.region ?_
      refine WL.yld (wanted_plain (by rfl)) (yld_move (by rfl)) (by rfl) (by decide) ?_
      refine WL.yld (wanted_plain (by rfl)) (yld_mul (by rfl) (by rfl) (by exact wU64 (by omega) (by omega))) (by rfl) (by decide) ?_
      refine WL.yld (wanted_plain (by rfl)) (yld_move (by rfl)) (by rfl) (by decide) ?_
      refine WL.yld (wanted_plain (by rfl)) (yld_move (by rfl)) (by rfl) (by decide) ?_
      refine WL.yld (wanted_plain (by rfl)) (yld_indexAddrS (by rfl) (by rfl) (by exact Try.runUnderlying31) (by exact Try.sizeOf5) (by repeat (first | exact .here | apply Sel.there)) (j - 1) (by first | rfl | omega) (by omega) (by omega) (by exact Nat.mul_one _)) (by rfl) (by decide) ?_
      refine WL.yld (wanted_plain (by rfl)) (yld_loadS (by rfl) (by exact Try.isAgg5) (by repeat (first | exact .here | apply Sel.there)) (by rw [List.getElem?_map, hc]; rfl)) (by rfl) (by decide) ?_
      refine WL.yld (wanted_plain (by rfl)) (yld_convInt (by rfl) (by exact Try.runUnderlying5) (by exact Try.runUnderlying75) (by exact wU64 (by omega) (by omega))) (by rfl) (by decide) ?_
      refine WL.yld (wanted_plain (by rfl)) (yld_add (by rfl) (by rfl) (show IntKind.u64.wrap _ = ((leM ((bs.drop (j - 1)).take (min (i + 8) len - (j - 1))) : Nat) : Int) from by rw [hcons]; exact (wU64 (by omega) (by omega)).trans (by omega))) (by rfl) (by decide) ?_
      refine WL.yld (wanted_plain (by rfl)) (yld_assign (by rfl)) (by rfl) (by decide) ?_
      refine WL.done ?_
      refine WK.endBlock ?_
      refine WK.region ?_
      refine WL.yld (wanted_plain (by rfl)) (yld_move (by rfl)) (by rfl) (by decide) ?_
      refine WL.yld (wanted_plain (by rfl)) (yld_sub (by rfl) (by rfl) (by first | exact w64 (by omega) (by omega) | rfl)) (by rfl) (by decide) ?_
      refine WL.yld (wanted_plain (by rfl)) (yld_assign (by rfl)) (by rfl) (by decide) ?_
      refine WL.done ?_
      exact WK.next hN2 (j - 1) ⟨by omega, by omega⟩ (by omega) (by refine KK.cons rfl (KK.cons rfl (KK.cons rfl (KK.cons rfl (KK.cons ?_ KK.nil)))); simp [Sep.look]; omega) (by repeat (first | exact SelL.nil | exact SelL.self | apply SelL.cons | exact Sel.here | apply Sel.there | apply SelL.skip))
    · skip
      have hc21 := of_decide_eq_false hc21
      obtain rfl : i = j := by omega
      rw [show (bs.drop i).take (min (i + 8) len - i) = (bs.drop i).take 8 from by rw [List.take_eq_take_iff]; simp; omega]
      refine WK.exit ?_
      repeat (first | refine XQ.then_ ?_ | refine XQ.block (by rfl) ?_)
      refine XQ.here ?_
      refine WK.region ?_
      refine WL.yld (wanted_plain (by rfl)) (yld_move (by rfl)) (by rfl) (by decide) ?_
      refine WL.yld (wanted_plain (by rfl)) (yld_move (by rfl)) (by rfl) (by decide) ?_
      refine WL.eff (wanted_plain (by rfl)) (eff_mkSlice1 (by rfl) (by rfl) (by exact Try.runUnderlying114) (by exact Try.sizeOf75) (by exact Try.zeroValue75) (by rfl) (by rfl) (by decide) (by rfl)) (by rfl) (by decide) ?_
      rintro b34 -
      try dsimp only
      refine WL.eff (wanted_plain (by rfl)) (eff_append (by rfl) (by rfl) (by exact elem114) (by exact Try.underlying114) (by repeat (first | exact SelL.nil | exact SelL.self | apply SelL.cons | exact Sel.here | apply Sel.there | apply SelL.skip)) (by omega) (by omega)) (by rfl) (by decide) ?_
      rintro ⟨ad35, cap35⟩ -
      try dsimp only
      refine WL.yld (wanted_plain (by rfl)) (yld_assign (by rfl)) (by rfl) (by decide) ?_
      refine WL.done ?_
      refine WK.endBlock ?_
      refine WK.region ?_
      refine WL.yld (wanted_plain (by rfl)) (yld_move (by rfl)) (by rfl) (by decide) ?_
      refine WL.yld (wanted_plain (by rfl)) (yld_add (by rfl) (by rfl) (by first | exact w64 (by omega) (by omega) | rfl)) (by rfl) (by decide) ?_
      refine WL.yld (wanted_plain (by rfl)) (yld_assign (by rfl)) (by rfl) (by decide) ?_
      refine WL.done ?_
      apply WK.next hN (i + 8, ws ++ [leM ((bs.drop i).take 8)], ad35, cap35) ⟨by dsimp only; omega, by dsimp only; rw [hw, hwd, List.append_assoc]; rfl⟩ (by dsimp only; omega) (by refine KK.cons rfl (KK.cons ?_ (KK.cons rfl KK.nil)); simp [Sep.look, List.length_append])
      dsimp only
      rw [List.length_append, List.map_append]
      exact (by repeat (first | exact SelL.nil | exact SelL.self | apply SelL.cons | exact Sel.here | apply Sel.there | apply SelL.skip))
  · skip
    have hc10 := of_decide_eq_false hc10
    refine WK.exit ?_
    repeat (first | refine XQ.then_ ?_ | refine XQ.block (by rfl) ?_)
    refine XQ.here ?_
    refine WK.seq ?_
    refine WK.region ?_
    refine WL.yld (wanted_plain (by rfl)) (yld_move (by rfl)) (by rfl) (by decide) ?_
    refine WL.yld (wanted_plain (by rfl)) (yld_assign (by rfl)) (by rfl) (by decide) ?_
    refine WL.done ?_
    refine WK.ret ?_
    repeat (first | refine RQ.block ?_ | refine RQ.then_ ?_)
    refine RQ.body (results1 (by rfl) (by rfl)) (fun w s => ?_)
    obtain rfl : ws = wordsM bs := by rw [hw, wordsM_nil (by omega), List.append_nil]
    exact ⟨(ad2, cap2), trivial, rfl, s.toCs (by repeat (first | exact SelL.nil | exact SelL.self | apply SelL.cons | exact Sel.here | apply Sel.there | apply SelL.skip))⟩
set_option maxRecDepth 20000 in
set_option maxHeartbeats 1000000 in
theorem refMix_spec (s w : Int) :
    Triple Try.prog 76 #[.int .u64 s, .int .u64 w] [] (Unit) (fun _ => True) (fun _ => .int .u64 (mixM s w)) (fun _ => []) := by
  refine Triple.of_body (args := [.int .u64 s, .int .u64 w]) Try.func76 rfl Try.ntmps76 (by simp) (fun g F => ?_)
  dsimp only [numb, List.cons_append, List.nil_append]
  refine WK.seq ?_
  refine WK.region ?_
  refine WL.yld (wanted_plain (by rfl)) (yld_assign (by rfl)) (by rfl) (by decide) ?_
  refine WL.done ?_
  refine WK.seq ?_
  refine WK.region ?_
  refine WL.yld (wanted_plain (by rfl)) (yld_move (by rfl)) (by rfl) (by decide) ?_
  refine WL.yld (wanted_plain (by rfl)) (yld_move (by rfl)) (by rfl) (by decide) ?_
  refine WL.yld (wanted_plain (by rfl)) (yld_xor (by rfl) (by rfl) (by rfl)) (by rfl) (by decide) ?_
  refine WL.yld (wanted_plain (by rfl)) (yld_mul (by rfl) (by rfl) (by first | exact wU64 (by omega) (by omega) | rfl)) (by rfl) (by decide) ?_
  refine WL.yld (wanted_plain (by rfl)) (yld_assign (by rfl)) (by rfl) (by decide) ?_
  refine WL.done ?_
  refine WK.seq ?_
  refine WK.region ?_
  refine WL.yld (wanted_plain (by rfl)) (yld_move (by rfl)) (by rfl) (by decide) ?_
  refine WL.yld (wanted_plain (by rfl)) (yld_move (by rfl)) (by rfl) (by decide) ?_
  refine WL.yld (wanted_plain (by rfl)) (yld_quo (by rfl) (by rfl) (by omega) (by exact quoW _ (wrapR _))) (by rfl) (by decide) ?_
  refine WL.yld (wanted_plain (by rfl)) (yld_xor (by rfl) (by rfl) (by rfl)) (by rfl) (by decide) ?_
  refine WL.yld (wanted_plain (by rfl)) (yld_assign (by rfl)) (by rfl) (by decide) ?_
  refine WL.done ?_
  refine WK.ret ?_
  repeat (first | refine RQ.block ?_ | refine RQ.then_ ?_)
  refine RQ.body (results1 (by rfl) (by rfl)) (fun w s => ?_)
  exact ⟨(), trivial, rfl, by assumption⟩
set_option maxRecDepth 20000 in
set_option maxHeartbeats 1000000 in
theorem refSum_spec (label : List UInt8) (p : Bool) (ad : Option Addr) (len cap : Nat) (l : List Int) (h1 : label.length ≤ 1000000) (h2 : len ≤ 140737488355328) :
    Triple Try.prog 68 #[.string ⟨label.toArray⟩, .slice ad len cap] [sl p 3 1 ad len cap (l.map (Value.int .i64))] (Unit) (fun _ => True) (fun _ => .int .u64 (hashM label l)) (fun _ => [sl p 3 1 ad len cap (l.map (Value.int .i64))]) := by
  refine Triple.of_body (args := [.string ⟨label.toArray⟩, .slice ad len cap]) Try.func68 rfl Try.ntmps68 (by simp) (fun g F => ?_)
  dsimp only [numb, List.cons_append, List.nil_append]
  refine WK.know (fun w s => Sat.slLen (s.sel1 (A := sl p 3 1 ad len cap (l.map (Value.int .i64))) (by repeat (first | exact .here | apply Sel.there)))) (fun hkn => ?_)
  obtain ⟨n1, n1c, -⟩ := hkn
  simp only [Nat.mul_one, List.length_map] at n1
  have hsz : (⟨label.toArray⟩ : ByteArray).size = label.length := by simp [ByteArray.size]
  have hwl := wordsM_len label
  refine WK.seq ?_
  refine WK.region ?_
  refine WL.yld (wanted_plain (by rfl)) (yld_assign (by rfl)) (by rfl) (by decide) ?_
  refine WL.done ?_
  refine WK.seq ?_
  refine WK.region ?_
  refine WL.yld (wanted_plain (by rfl)) (yld_assign (by rfl)) (by rfl) (by decide) ?_
  refine WL.done ?_
  refine WK.seq ?_
  refine WK.region ?_
  refine WL.yld (wanted_plain (by rfl)) (yld_move (by rfl)) (by rfl) (by decide) ?_
  refine WL.eff (wanted_plain (by rfl)) (eff_strBytes (by rfl) (by exact Try.underlying9) (by exact Try.underlying31) (by exact Try.underlying5)) (by rfl) (by decide) ?_
  rintro ⟨b10, cap10⟩ hcap10
  try dsimp only at hcap10
  try dsimp only
  refine WL.eff (wanted_plain (by rfl)) (eff_call (by exact Try.call67) (by repeat (first | exact Evs.nil | apply Evs.cons | rfl)) (by repeat (first | exact SelL.nil | exact SelL.self | apply SelL.cons | exact Sel.here | apply Sel.there | apply SelL.skip)) (refWords_spec true _ _ _ label h1)) (by rfl) (by decide) ?_
  rintro ⟨ad11, cap11⟩ -
  try dsimp only
  refine WL.yld (wanted_plain (by rfl)) (yld_assign (by rfl)) (by rfl) (by decide) ?_
  refine WL.done ?_
  refine WK.seq ?_
  refine WK.seq ?_
  refine WK.region ?_
  refine WL.yld (wanted_plain (by rfl)) (yld_assign (by rfl)) (by rfl) (by decide) ?_
  refine WL.done ?_
  refine WK.block ?_
  refine WK.loop (ι := Nat × Int) (fun x => x.1 ≤ (wordsM label).length ∧ x.2 = ((wordsM label).take x.1).foldl mixW 0) (fun x => [(0, .string ⟨label.toArray⟩), (1, .slice ad len cap), (6, .slice ad11 (wordsM label).length cap11), (7, .int .i64 (x.1 : Int)), (5, .int .u64 x.2)]) (fun _ => sl true 75 1 ad11 (wordsM label).length cap11 ((wordsM label).map fun (w : Nat) => Value.int .u64 (w : Int)) :: sl p 3 1 ad len cap (l.map (Value.int .i64)) :: F) (fun x => (wordsM label).length - x.1) ((0, 0)) (⟨Nat.zero_le _, rfl⟩) (by repeat (first | exact KK.nil | refine KK.cons (by first | rfl | (simp; done)) ?_)) (by repeat (first | exact SelL.nil | exact SelL.self | apply SelL.cons | exact Sel.here | apply Sel.there | apply SelL.skip)) ?_
  rintro ⟨i, t⟩ ⟨hi, ht⟩ N hN
  dsimp only at hi ht ⊢
  refine WK.seq ?_
  refine WK.seq ?_
  refine WK.region ?_
  refine WL.yld (wanted_plain (by rfl)) (yld_move (by rfl)) (by rfl) (by decide) ?_
  refine WL.yld (wanted_plain (by rfl)) (yld_move (by rfl)) (by rfl) (by decide) ?_
  refine WL.yld (wanted_plain (by rfl)) (yld_len (by rfl) (by exact Try.runUnderlying114)) (by rfl) (by decide) ?_
  refine WL.yld (wanted_plain (by rfl)) (yld_lss (by rfl) (by rfl)) (by rfl) (by decide) ?_
  refine WL.done ?_
  refine WK.cond (by rfl) (fun hc15 => ?_) (fun hc15 => ?_)
  · skip
    have hc15 := of_decide_eq_true hc15
    obtain ⟨x, hx⟩ : ∃ x, (wordsM label)[i]? = some x := ⟨_, List.getElem?_eq_getElem (by omega)⟩
    refine WK.skip ?_
    refine WK.seq ?_
    refine WK.block ?_
    refine WK.region ?_
    refine WL.yld (wanted_plain (by rfl)) (yld_move (by rfl)) (by rfl) (by decide) ?_
    refine WL.yld (wanted_plain (by rfl)) (yld_move (by rfl)) (by rfl) (by decide) ?_
    refine WL.yld (wanted_plain (by rfl)) (yld_move (by rfl)) (by rfl) (by decide) ?_
    refine WL.yld (wanted_plain (by rfl)) (yld_indexAddrS (by rfl) (by rfl) (by exact Try.runUnderlying114) (by exact Try.sizeOf75) (by repeat (first | exact .here | apply Sel.there)) (i) (by first | rfl | omega) (by omega) (by omega) (by exact Nat.mul_one _)) (by rfl) (by decide) ?_
    refine WL.yld (wanted_plain (by rfl)) (yld_loadS (by rfl) (by exact Try.isAgg75) (by repeat (first | exact .here | apply Sel.there)) (by rw [List.getElem?_map, hx]; rfl)) (by rfl) (by decide) ?_
    refine WL.eff (wanted_plain (by rfl)) (eff_call (by exact Try.call76) (by repeat (first | exact Evs.nil | apply Evs.cons | rfl)) (by repeat (first | exact SelL.nil | exact SelL.self | apply SelL.cons | exact Sel.here | apply Sel.there | apply SelL.skip)) (refMix_spec _ _)) (by rfl) (by decide) ?_
    rintro _ -
    try dsimp only
    refine WL.yld (wanted_plain (by rfl)) (yld_assign (by rfl)) (by rfl) (by decide) ?_
    refine WL.done ?_
    refine WK.endBlock ?_
    refine WK.region ?_
    refine WL.yld (wanted_plain (by rfl)) (yld_move (by rfl)) (by rfl) (by decide) ?_
    refine WL.yld (wanted_plain (by rfl)) (yld_add (by rfl) (by rfl) (by first | exact w64 (by omega) (by omega) | rfl)) (by rfl) (by decide) ?_
    refine WL.yld (wanted_plain (by rfl)) (yld_assign (by rfl)) (by rfl) (by decide) ?_
    refine WL.done ?_
    exact WK.next hN (i + 1, mixW t x) ⟨by dsimp only; omega, by dsimp only; rw [ht, List.take_add_one, hx, List.foldl_append]; rfl⟩ (by dsimp only; omega) (by repeat (first | exact KK.nil | refine KK.cons (by first | rfl | (simp; done)) ?_)) (by repeat (first | exact SelL.nil | exact SelL.self | apply SelL.cons | exact Sel.here | apply Sel.there | apply SelL.skip))
  · skip
    have hc15 := of_decide_eq_false hc15
    rw [List.take_of_length_le (by omega)] at ht
    subst ht
    refine WK.exit ?_
    repeat (first | refine XQ.then_ ?_ | refine XQ.block (by rfl) ?_)
    refine XQ.here ?_
    refine WK.seq ?_
    refine WK.region ?_
    refine WL.yld (wanted_plain (by rfl)) (yld_move (by rfl)) (by rfl) (by decide) ?_
    refine WL.yld (wanted_plain (by rfl)) (yld_move (by rfl)) (by rfl) (by decide) ?_
    refine WL.yld (wanted_plain (by rfl)) (yld_lenS (by rfl) (by exact Try.runUnderlying9)) (by rfl) (by decide) ?_
    refine WL.yld (wanted_plain (by rfl)) (yld_convInt (by rfl) (by exact Try.runUnderlying3) (by exact Try.runUnderlying75) (show IntKind.u64.wrap (((⟨label.toArray⟩ : ByteArray).size : Nat) : Int) = ((label.length : Nat) : Int) from by rw [hsz, u64wrap, Nat.mod_eq_of_lt (by omega)])) (by rfl) (by decide) ?_
    refine WL.eff (wanted_plain (by rfl)) (eff_call (by exact Try.call76) (by repeat (first | exact Evs.nil | apply Evs.cons | rfl)) (by repeat (first | exact SelL.nil | exact SelL.self | apply SelL.cons | exact Sel.here | apply Sel.there | apply SelL.skip)) (refMix_spec _ _)) (by rfl) (by decide) ?_
    rintro _ -
    try dsimp only
    refine WL.yld (wanted_plain (by rfl)) (yld_assign (by rfl)) (by rfl) (by decide) ?_
    refine WL.done ?_
    refine WK.seq ?_
    refine WK.region ?_
    refine WL.yld (wanted_plain (by rfl)) (yld_move (by rfl)) (by rfl) (by decide) ?_
    refine WL.yld (wanted_plain (by rfl)) (yld_move (by rfl)) (by rfl) (by decide) ?_
    refine WL.yld (wanted_plain (by rfl)) (yld_len (by rfl) (by exact Try.runUnderlying22)) (by rfl) (by decide) ?_
    refine WL.yld (wanted_plain (by rfl)) (yld_convInt (by rfl) (by exact Try.runUnderlying3) (by exact Try.runUnderlying75) (show IntKind.u64.wrap ((len : Nat) : Int) = ((l.length : Nat) : Int) from by rw [u64wrap, Nat.mod_eq_of_lt (by omega), n1])) (by rfl) (by decide) ?_
    refine WL.eff (wanted_plain (by rfl)) (eff_call (by exact Try.call76) (by repeat (first | exact Evs.nil | apply Evs.cons | rfl)) (by repeat (first | exact SelL.nil | exact SelL.self | apply SelL.cons | exact Sel.here | apply Sel.there | apply SelL.skip)) (refMix_spec _ _)) (by rfl) (by decide) ?_
    rintro _ -
    try dsimp only
    refine WL.yld (wanted_plain (by rfl)) (yld_assign (by rfl)) (by rfl) (by decide) ?_
    refine WL.done ?_
    refine WK.seq ?_
    refine WK.seq ?_
    refine WK.region ?_
    refine WL.yld (wanted_plain (by rfl)) (yld_assign (by rfl)) (by rfl) (by decide) ?_
    refine WL.done ?_
    refine WK.block ?_
    refine WK.loop (ι := Nat × Int) (fun x => x.1 ≤ len ∧ x.2 = (l.take x.1).foldl mixI (mixM (mixM ((wordsM label).foldl mixW 0) label.length) l.length)) (fun x => [(1, .slice ad len cap), (8, .int .i64 (x.1 : Int)), (5, .int .u64 x.2)]) (fun _ => sl p 3 1 ad len cap (l.map (Value.int .i64)) :: F) (fun x => len - x.1) ((0, mixM (mixM ((wordsM label).foldl mixW 0) label.length) l.length)) (⟨Nat.zero_le _, rfl⟩) (by repeat (first | exact KK.nil | refine KK.cons (by first | rfl | (simp; done)) ?_)) (by repeat (first | exact SelL.nil | exact SelL.self | apply SelL.cons | exact Sel.here | apply Sel.there | apply SelL.skip)) ?_
    rintro ⟨i, t⟩ ⟨hi, ht⟩ N hN
    dsimp only at hi ht ⊢
    refine WK.seq ?_
    refine WK.seq ?_
    refine WK.region ?_
    refine WL.yld (wanted_plain (by rfl)) (yld_move (by rfl)) (by rfl) (by decide) ?_
    refine WL.yld (wanted_plain (by rfl)) (yld_move (by rfl)) (by rfl) (by decide) ?_
    refine WL.yld (wanted_plain (by rfl)) (yld_len (by rfl) (by exact Try.runUnderlying22)) (by rfl) (by decide) ?_
    refine WL.yld (wanted_plain (by rfl)) (yld_lss (by rfl) (by rfl)) (by rfl) (by decide) ?_
    refine WL.done ?_
    refine WK.cond (by rfl) (fun hc37 => ?_) (fun hc37 => ?_)
    · skip
      have hc37 := of_decide_eq_true hc37
      obtain ⟨x, hx⟩ : ∃ x, l[i]? = some x := ⟨_, List.getElem?_eq_getElem (by omega)⟩
      refine WK.skip ?_
      refine WK.seq ?_
      refine WK.block ?_
      refine WK.region ?_
      refine WL.yld (wanted_plain (by rfl)) (yld_move (by rfl)) (by rfl) (by decide) ?_
      refine WL.yld (wanted_plain (by rfl)) (yld_move (by rfl)) (by rfl) (by decide) ?_
      refine WL.yld (wanted_plain (by rfl)) (yld_move (by rfl)) (by rfl) (by decide) ?_
      refine WL.yld (wanted_plain (by rfl)) (yld_indexAddrS (by rfl) (by rfl) (by exact Try.runUnderlying22) (by exact Try.sizeOf3) (by repeat (first | exact .here | apply Sel.there)) (i) (by first | rfl | omega) (by omega) (by omega) (by exact Nat.mul_one _)) (by rfl) (by decide) ?_
      refine WL.yld (wanted_plain (by rfl)) (yld_loadS (by rfl) (by exact Try.isAgg3) (by repeat (first | exact .here | apply Sel.there)) (by rw [List.getElem?_map, hx]; rfl)) (by rfl) (by decide) ?_
      refine WL.yld (wanted_plain (by rfl)) (yld_convInt (by rfl) (by exact Try.runUnderlying3) (by exact Try.runUnderlying75) (by rfl)) (by rfl) (by decide) ?_
      refine WL.eff (wanted_plain (by rfl)) (eff_call (by exact Try.call76) (by repeat (first | exact Evs.nil | apply Evs.cons | rfl)) (by repeat (first | exact SelL.nil | exact SelL.self | apply SelL.cons | exact Sel.here | apply Sel.there | apply SelL.skip)) (refMix_spec _ _)) (by rfl) (by decide) ?_
      rintro _ -
      try dsimp only
      refine WL.yld (wanted_plain (by rfl)) (yld_assign (by rfl)) (by rfl) (by decide) ?_
      refine WL.done ?_
      refine WK.endBlock ?_
      refine WK.region ?_
      refine WL.yld (wanted_plain (by rfl)) (yld_move (by rfl)) (by rfl) (by decide) ?_
      refine WL.yld (wanted_plain (by rfl)) (yld_add (by rfl) (by rfl) (by first | exact w64 (by omega) (by omega) | rfl)) (by rfl) (by decide) ?_
      refine WL.yld (wanted_plain (by rfl)) (yld_assign (by rfl)) (by rfl) (by decide) ?_
      refine WL.done ?_
      exact WK.next hN (i + 1, mixI t x) ⟨by dsimp only; omega, by dsimp only; rw [ht, List.take_add_one, hx, List.foldl_append]; rfl⟩ (by dsimp only; omega) (by repeat (first | exact KK.nil | refine KK.cons (by first | rfl | (simp; done)) ?_)) (by repeat (first | exact SelL.nil | exact SelL.self | apply SelL.cons | exact Sel.here | apply Sel.there | apply SelL.skip))
    · skip
      have hc37 := of_decide_eq_false hc37
      refine WK.exit ?_
      repeat (first | refine XQ.then_ ?_ | refine XQ.block (by rfl) ?_)
      refine XQ.here ?_
      refine WK.seq ?_
      refine WK.region ?_
      refine WL.yld (wanted_plain (by rfl)) (yld_move (by rfl)) (by rfl) (by decide) ?_
      refine WL.eff (wanted_plain (by rfl)) (eff_call (by exact Try.call76) (by repeat (first | exact Evs.nil | apply Evs.cons | rfl)) (by repeat (first | exact SelL.nil | exact SelL.self | apply SelL.cons | exact Sel.here | apply Sel.there | apply SelL.skip)) (refMix_spec _ _)) (by rfl) (by decide) ?_
      rintro _ -
      try dsimp only
      refine WL.yld (wanted_plain (by rfl)) (yld_assign (by rfl)) (by rfl) (by decide) ?_
      refine WL.done ?_
      refine WK.ret ?_
      repeat (first | refine RQ.block ?_ | refine RQ.then_ ?_)
      refine RQ.body (results1 (by rfl) (by rfl)) (fun w s => ?_)
      refine ⟨(), trivial, ?_, s.toCs (by repeat (first | exact SelL.nil | exact SelL.self | apply SelL.cons | exact Sel.here | apply Sel.there | apply SelL.skip))⟩
      rw [ht, List.take_of_length_le (by omega)]
      rfl
set_option maxRecDepth 20000 in
set_option maxHeartbeats 1000000 in
theorem refBytes_spec (label : List UInt8) (p : Bool) (ad : Option Addr) (len cap : Nat) (bs : List UInt8) (h1 : label.length ≤ 1000000) (h2 : len ≤ 1000000) :
    Triple Try.prog 53 #[.string ⟨label.toArray⟩, .slice ad len cap] [sl p 5 1 ad len cap (bs.map bv)] (Unit) (fun _ => True) (fun _ => .int .u64 (hashB label bs)) (fun _ => [sl p 5 1 ad len cap (bs.map bv)]) := by
  refine Triple.of_body (args := [.string ⟨label.toArray⟩, .slice ad len cap]) Try.func53 rfl Try.ntmps53 (by simp) (fun g F => ?_)
  dsimp only [numb, List.cons_append, List.nil_append]
  refine WK.know (fun w s => Sat.slLen (s.sel1 (A := sl p 5 1 ad len cap (bs.map bv)) (by repeat (first | exact .here | apply Sel.there)))) (fun hkn => ?_)
  obtain ⟨n1, n1c, -⟩ := hkn
  simp only [Nat.mul_one, List.length_map] at n1
  have hwl := wordsM_len bs
  refine WK.seq ?_
  refine WK.region ?_
  refine WL.yld (wanted_plain (by rfl)) (yld_assign (by rfl)) (by rfl) (by decide) ?_
  refine WL.done ?_
  refine WK.seq ?_
  refine WK.region ?_
  refine WL.yld (wanted_plain (by rfl)) (yld_move (by rfl)) (by rfl) (by decide) ?_
  refine WL.eff (wanted_plain (by rfl)) (eff_call (by exact Try.call67) (by repeat (first | exact Evs.nil | apply Evs.cons | rfl)) (by repeat (first | exact SelL.nil | exact SelL.self | apply SelL.cons | exact Sel.here | apply Sel.there | apply SelL.skip)) (refWords_spec p ad len cap bs h2)) (by rfl) (by decide) ?_
  rintro ⟨ad9, cap9⟩ -
  try dsimp only
  refine WL.yld (wanted_plain (by rfl)) (yld_assign (by rfl)) (by rfl) (by decide) ?_
  refine WL.done ?_
  refine WK.seq ?_
  refine WK.region ?_
  refine WL.yld (wanted_plain (by rfl)) (yld_assign (by rfl)) (by rfl) (by decide) ?_
  refine WL.done ?_
  refine WK.seq ?_
  refine WK.seq ?_
  refine WK.region ?_
  refine WL.yld (wanted_plain (by rfl)) (yld_assign (by rfl)) (by rfl) (by decide) ?_
  refine WL.done ?_
  refine WK.block ?_
  refine WK.sat (fun w s => Sat.nilSl s true 3 1) ?_
  refine WK.loop (ι := Nat × Option Addr × Nat) (fun x => x.1 ≤ (wordsM bs).length) (fun x => [(0, .string ⟨label.toArray⟩), (1, .slice ad len cap), (5, .slice ad9 (wordsM bs).length cap9), (6, .slice x.2.1 x.1 x.2.2), (7, .int .i64 (x.1 : Int))]) (fun x => sl true 3 1 x.2.1 x.1 x.2.2 ((((wordsM bs).take x.1).map wordI).map (Value.int .i64)) :: sl true 75 1 ad9 (wordsM bs).length cap9 ((wordsM bs).map fun (w : Nat) => Value.int .u64 (w : Int)) :: sl p 5 1 ad len cap (bs.map bv) :: F) (fun x => (wordsM bs).length - x.1) ((0, none, 0)) (Nat.zero_le _) (by repeat (first | exact KK.nil | refine KK.cons (by first | rfl | (simp; done)) ?_)) (by repeat (first | exact SelL.nil | exact SelL.self | apply SelL.cons | exact Sel.here | apply Sel.there | apply SelL.skip)) ?_
  rintro ⟨i, ad2, cap2⟩ hi N hN
  dsimp only at hi ⊢
  refine WK.seq ?_
  refine WK.seq ?_
  refine WK.region ?_
  refine WL.yld (wanted_plain (by rfl)) (yld_move (by rfl)) (by rfl) (by decide) ?_
  refine WL.yld (wanted_plain (by rfl)) (yld_move (by rfl)) (by rfl) (by decide) ?_
  refine WL.yld (wanted_plain (by rfl)) (yld_len (by rfl) (by exact Try.runUnderlying114)) (by rfl) (by decide) ?_
  refine WL.yld (wanted_plain (by rfl)) (yld_lss (by rfl) (by rfl)) (by rfl) (by decide) ?_
  refine WL.done ?_
  refine WK.cond (by rfl) (fun hc13 => ?_) (fun hc13 => ?_)
  · skip
    have hc13 := of_decide_eq_true hc13
    obtain ⟨x, hx⟩ : ∃ x, (wordsM bs)[i]? = some x := ⟨_, List.getElem?_eq_getElem (by omega)⟩
    refine WK.skip ?_
    refine WK.seq ?_
    refine WK.block ?_
    refine WK.region ?_
    refine WL.yld (wanted_plain (by rfl)) (yld_move (by rfl)) (by rfl) (by decide) ?_
    refine WL.yld (wanted_plain (by rfl)) (yld_move (by rfl)) (by rfl) (by decide) ?_
    refine WL.yld (wanted_plain (by rfl)) (yld_move (by rfl)) (by rfl) (by decide) ?_
    refine WL.yld (wanted_plain (by rfl)) (yld_indexAddrS (by rfl) (by rfl) (by exact Try.runUnderlying114) (by exact Try.sizeOf75) (by repeat (first | exact .here | apply Sel.there)) (i) (by first | rfl | omega) (by omega) (by omega) (by exact Nat.mul_one _)) (by rfl) (by decide) ?_
    refine WL.yld (wanted_plain (by rfl)) (yld_loadS (by rfl) (by exact Try.isAgg75) (by repeat (first | exact .here | apply Sel.there)) (by rw [List.getElem?_map, hx]; rfl)) (by rfl) (by decide) ?_
    refine WL.yld (wanted_plain (by rfl)) (yld_convInt (by rfl) (by exact Try.runUnderlying75) (by exact Try.runUnderlying3) (by rfl)) (by rfl) (by decide) ?_
    refine WL.eff (wanted_plain (by rfl)) (eff_mkSlice1 (by rfl) (by rfl) (by exact Try.runUnderlying22) (by exact Try.sizeOf3) (by exact Try.zeroValue3) (by rfl) (by rfl) (by decide) (by rfl)) (by rfl) (by decide) ?_
    rintro b22 -
    try dsimp only
    refine WL.eff (wanted_plain (by rfl)) (eff_append (by rfl) (by rfl) (by exact elem22) (by exact Try.underlying22) (by repeat (first | exact SelL.nil | exact SelL.self | apply SelL.cons | exact Sel.here | apply Sel.there | apply SelL.skip)) (by omega) (by omega)) (by rfl) (by decide) ?_
    rintro ⟨ad23, cap23⟩ -
    try dsimp only
    refine WL.yld (wanted_plain (by rfl)) (yld_assign (by rfl)) (by rfl) (by decide) ?_
    refine WL.done ?_
    refine WK.endBlock ?_
    refine WK.region ?_
    refine WL.yld (wanted_plain (by rfl)) (yld_move (by rfl)) (by rfl) (by decide) ?_
    refine WL.yld (wanted_plain (by rfl)) (yld_add (by rfl) (by rfl) (by first | exact w64 (by omega) (by omega) | rfl)) (by rfl) (by decide) ?_
    refine WL.yld (wanted_plain (by rfl)) (yld_assign (by rfl)) (by rfl) (by decide) ?_
    refine WL.done ?_
    apply WK.next hN (i + 1, ad23, cap23) (by dsimp only; omega) (by dsimp only; omega) (by repeat (first | exact KK.nil | refine KK.cons (by first | rfl | (simp; done)) ?_))
    dsimp only
    rw [List.take_add_one, hx, List.map_append, List.map_append]
    exact (by repeat (first | exact SelL.nil | exact SelL.self | apply SelL.cons | exact Sel.here | apply Sel.there | apply SelL.skip))
  · skip
    have hc13 := of_decide_eq_false hc13
    obtain rfl : i = (wordsM bs).length := by omega
    rw [List.take_length]
    refine WK.exit ?_
    repeat (first | refine XQ.then_ ?_ | refine XQ.block (by rfl) ?_)
    refine XQ.here ?_
    refine WK.seq ?_
    refine WK.region ?_
    refine WL.yld (wanted_plain (by rfl)) (yld_move (by rfl)) (by rfl) (by decide) ?_
    refine WL.yld (wanted_plain (by rfl)) (yld_move (by rfl)) (by rfl) (by decide) ?_
    refine WL.yld (wanted_plain (by rfl)) (yld_move (by rfl)) (by rfl) (by decide) ?_
    refine WL.yld (wanted_plain (by rfl)) (yld_len (by rfl) (by exact Try.runUnderlying31)) (by rfl) (by decide) ?_
    refine WL.eff (wanted_plain (by rfl)) (eff_mkSlice1 (by rfl) (by rfl) (by exact Try.runUnderlying22) (by exact Try.sizeOf3) (by exact Try.zeroValue3) (by rfl) (by rfl) (by decide) (by rfl)) (by rfl) (by decide) ?_
    rintro b28 -
    try dsimp only
    refine WL.eff (wanted_plain (by rfl)) (eff_append (by rfl) (by rfl) (by exact elem22) (by exact Try.underlying22) (by repeat (first | exact SelL.nil | exact SelL.self | apply SelL.cons | exact Sel.here | apply Sel.there | apply SelL.skip)) (by omega) (by omega)) (by rfl) (by decide) ?_
    rintro ⟨ad29, cap29⟩ -
    try dsimp only
    have hlist : ((wordsM bs).map wordI).map (Value.int .i64) ++ [Value.int .i64 (len : Int)] = ((wordsM bs).map wordI ++ [(bs.length : Int)]).map (Value.int .i64) := by rw [n1, List.map_append]; rfl
    rw [hlist]
    refine WL.eff (wanted_plain (by rfl)) (eff_call (by exact Try.call68) (by repeat (first | exact Evs.nil | apply Evs.cons | rfl)) (by repeat (first | exact SelL.nil | exact SelL.self | apply SelL.cons | exact Sel.here | apply Sel.there | apply SelL.skip)) (refSum_spec label true _ _ _ ((wordsM bs).map wordI ++ [(bs.length : Int)]) h1 (by omega))) (by rfl) (by decide) ?_
    rintro _ -
    try dsimp only
    refine WL.yld (wanted_plain (by rfl)) (yld_assign (by rfl)) (by rfl) (by decide) ?_
    refine WL.done ?_
    refine WK.ret ?_
    repeat (first | refine RQ.block ?_ | refine RQ.then_ ?_)
    refine RQ.body (results1 (by rfl) (by rfl)) (fun w s => ?_)
    exact ⟨(), trivial, rfl, s.toCs (by repeat (first | exact SelL.nil | exact SelL.self | apply SelL.cons | exact Sel.here | apply Sel.there | apply SelL.skip))⟩
set_option maxRecDepth 20000 in
set_option maxHeartbeats 1000000 in
theorem few_spec (p : Bool) (ad : Option Addr) (len cap : Nat) (bs : List UInt8) (most : Nat) (hl : min len most ≤ 1000000) :
    Triple Try.prog 27 #[.slice ad len cap, .int .i64 (most : Int)] [sl p 5 1 ad len cap (bs.map bv)] (Option Addr × Nat) (fun _ => True) (fun x => .slice x.1 (min len most) x.2) (fun x => [sl true 5 1 x.1 (min len most) x.2 ((bs.take most).map bv), sl p 5 1 ad len cap (bs.map bv)]) := by
  refine Triple.of_body (args := [.slice ad len cap, .int .i64 (most : Int)]) Try.func27 rfl Try.ntmps27 (by simp) (fun g F => ?_)
  dsimp only [numb, List.cons_append, List.nil_append]
  refine WK.know (fun w s => Sat.slLen (s.sel1 (A := sl p 5 1 ad len cap (bs.map bv)) (by repeat (first | exact .here | apply Sel.there)))) (fun hkn => ?_)
  obtain ⟨n1, n2, -⟩ := hkn
  simp only [Nat.mul_one, List.length_map] at n1
  have hcut : bs.take (min len most) = bs.take most := by rw [List.take_eq_take_iff]; omega
  refine WK.seq ?_
  refine WK.region ?_
  refine WL.yld (wanted_plain (by rfl)) (yld_assign (by rfl)) (by rfl) (by decide) ?_
  refine WL.done ?_
  refine WK.seq ?_
  refine WK.region ?_
  refine WL.yld (wanted_plain (by rfl)) (yld_assign (by rfl)) (by rfl) (by decide) ?_
  refine WL.done ?_
  refine WK.seq ?_
  refine WK.sat (fun w s => Sat.nilSl s true 5 1) ?_
  refine WK.region ?_
  refine WL.yld (wanted_plain (by rfl)) (yld_move (by rfl)) (by rfl) (by decide) ?_
  refine WL.yld (wanted_plain (by rfl)) (yld_move (by rfl)) (by rfl) (by decide) ?_
  refine WL.yld (wanted_plain (by rfl)) (yld_move (by rfl)) (by rfl) (by decide) ?_
  refine WL.yld (wanted_plain (by rfl)) (yld_len (by rfl) (by exact Try.runUnderlying31)) (by rfl) (by decide) ?_
  refine WL.yld (wanted_plain (by rfl)) (yld_move (by rfl)) (by rfl) (by decide) ?_
  refine WL.yld (wanted_plain (by rfl)) (yld_min (by rfl) (by rfl)) (by rfl) (by decide) ?_
  refine WL.yld (wanted_plain (by rfl)) (yld_slice_hi (by rfl) (by rfl) (by exact Try.runUnderlying31) (by exact Try.sizeOf5) (min len most) (by first | rfl | omega) (by omega)) (by rfl) (by decide) ?_
  refine WL.eff (wanted_plain (by rfl)) (eff_appendX (n2 := min len most) (ys := (bs.take most).map bv) (by rfl) (by rfl) (by exact elem31) (by repeat (first | exact .here | apply Sel.there)) (fun w s => by have := Sat.srcHi (s.sel1 (A := sl p 5 1 ad len cap (bs.map bv)) (by repeat (first | exact .here | apply Sel.there))) Try.underlying31 (min len most) (by omega); rw [Nat.mul_one, ← List.map_take, hcut] at this; exact this) (by omega) (by omega)) (by rfl) (by decide) ?_
  rintro ⟨ad13, cap13⟩ -
  try dsimp only
  refine WL.yld (wanted_plain (by rfl)) (yld_assign (by rfl)) (by rfl) (by decide) ?_
  refine WL.done ?_
  refine WK.ret ?_
  repeat (first | refine RQ.block ?_ | refine RQ.then_ ?_)
  refine RQ.body (results1 (by rfl) (by rfl)) (fun w s => ?_)
  refine ⟨(ad13, cap13), trivial, ?_, ?_⟩
  · rw [Nat.zero_add]
  · rw [Nat.zero_add] at s
    exact s.toCs (by repeat (first | exact SelL.nil | exact SelL.self | apply SelL.cons | exact Sel.here | apply Sel.there | apply SelL.skip))
end Go.Proofs.Ytnknclbiamhnaaa
