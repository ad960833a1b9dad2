import Derived.Test.YtnknclbiamhnaaaDetL
import Derived.Test.YtnknclbiamhnaaaChanB
namespace Go.Proofs.Ytnknclbiamhnaaa
set_option linter.unusedVariables false
set_option linter.unusedSimpArgs false
set_option linter.unusedSectionVars false
open Go Go.Sep
attribute [local irreducible] row sl mapO held exL allR byt mapI slr
def bytesOf (z : List Int) : List UInt8 := z.map fun i => UInt8.ofNat i.toNat
theorem wf8 {i : Int} (h : (Lit.int .u8 i).wf = true) : 0 ≤ i ∧ i ≤ 255 := by
  simp [Lit.wf, IntKind.min, IntKind.max, IntKind.bits, IntKind.signed] at h
  omega
theorem bytesOf_len (z : List Int) : (bytesOf z).length = z.length := by simp [bytesOf]
theorem bytesOf_val {z : List Int} (h : ∀ i ∈ z, 0 ≤ i ∧ i ≤ 255) : (bytesOf z).map bv = z.map (Value.int .u8) := by
  unfold bytesOf
  rw [List.map_map]
  refine List.map_congr_left fun i hi => ?_
  obtain ⟨h1, h2⟩ := h i hi
  show Value.int .u8 ((UInt8.ofNat i.toNat).toNat : Int) = _
  rw [u8of (by omega)]
  congr 1
  omega
theorem detKit {x y : Int} {b : List UInt8} (hx : I64 x) (hy : I64 y) (hb : b.length ≤ 100000) (hv : validB x y b.length = true) : ∃ (C : List UInt8) (H : Nat) (W : List UInt8), C.length ≤ b.length + 30 ∧ W.length ≤ C.length + 20 ∧ encM x y b = W ∧ H < 18446744073709551616 ∧
    rawE W 0 = some (C, uintB H) ∧ uintE (uintB H) 0 = some (H, []) ∧ W.length = (uintB C.length).length + C.length + (uintB H).length ∧ hashB parcel C = (H : Int) ∧
    ∀ (k : Nat) (c : UInt8), (uintB C.length).length ≤ k → k < W.length → W[k]? ≠ some c → (decM (W.set k c)).2 ≠ 0 := by
  have h1 := coreM_len hx hy (b := b) (by omega)
  have h2 := wholeM_len (c := coreM x y b) (by omega)
  refine ⟨coreM x y b, hashN parcel (coreM x y b), wholeM (coreM x y b), h1, h2, ?_, hashN_lt _ _, tw1 _ (by omega) _, tw2 _ (hashN_lt _ _), ?_, hashN_cast _ _, fun k c h3 h4 h5 => detect (by omega) h3 h4 h5⟩
  · unfold encM; rw [hv]; rfl
  · simp only [wholeM, List.length_append]
theorem xor_ne {a b : Int} (ha : 0 ≤ a ∧ a ≤ 255) (hb : 1 ≤ b ∧ b ≤ 255) : bXor .u8 a b ≠ a ∧ 0 ≤ bXor .u8 a b ∧ bXor .u8 a b ≤ 255 := by
  have key : ∀ x y : Fin 256, y ≠ 0 → bXor .u8 (x.val : Int) (y.val : Int) ≠ (x.val : Int) ∧ 0 ≤ bXor .u8 (x.val : Int) (y.val : Int) ∧ bXor .u8 (x.val : Int) (y.val : Int) ≤ 255 := by
    intro x y hy
    unfold bXor
    show IntKind.u8.wrap (((BitVec.ofInt 8 x.val ^^^ BitVec.ofInt 8 y.val).toNat : Nat) : Int) ≠ _ ∧ 0 ≤ IntKind.u8.wrap (((BitVec.ofInt 8 x.val ^^^ BitVec.ofInt 8 y.val).toNat : Nat) : Int) ∧ IntKind.u8.wrap (((BitVec.ofInt 8 x.val ^^^ BitVec.ofInt 8 y.val).toNat : Nat) : Int) ≤ 255
    have h0 := (BitVec.ofInt 8 (x.val : Int) ^^^ BitVec.ofInt 8 (y.val : Int)).isLt
    rw [u8wrapN, Nat.mod_eq_of_lt h0]
    refine ⟨fun h => hy ?_, by omega, by omega⟩
    have h1 : (BitVec.ofInt 8 (x.val : Int) ^^^ BitVec.ofInt 8 (y.val : Int)).toNat = (BitVec.ofInt 8 (x.val : Int)).toNat := by
      rw [BitVec.ofInt_natCast (n := x.val), BitVec.toNat_ofNat, Nat.mod_eq_of_lt (by have := x.isLt; omega)]
      rw [BitVec.ofInt_natCast (n := x.val)] at h
      omega
    have h2 := BitVec.eq_of_toNat_eq h1
    have h3 : BitVec.ofInt 8 (y.val : Int) = 0#8 := by
      have := congrArg (BitVec.ofInt 8 (x.val : Int) ^^^ ·) h2
      simpa [← BitVec.xor_assoc] using this
    have h4 := congrArg BitVec.toNat h3
    rw [BitVec.ofInt_natCast, BitVec.toNat_ofNat] at h4
    have := y.isLt
    exact Fin.ext (by simp at h4; omega)
  have := key ⟨a.toNat, by omega⟩ ⟨b.toNat, by omega⟩ (fun h => by have := congrArg Fin.val h; simp at this; omega)
  rw [show ((⟨a.toNat, by omega⟩ : Fin 256).val : Int) = a from by simp; omega, show ((⟨b.toNat, by omega⟩ : Fin 256).val : Int) = b from by simp; omega] at this
  exact this
set_option maxRecDepth 20000 in
set_option maxHeartbeats 1000000 in
theorem fewR_spec (ad : Option Addr) (len cap : Nat) (bs : List UInt8) (most : Nat) (hl : min len most ≤ 1000000) (hc : len ≤ cap) :
    Triple Try.prog 27 #[.slice ad len cap, .int .i64 (most : Int)] [slr 1 ad len (bs.map bv)] (Option Addr × Nat) (fun _ => True) (fun x => .slice x.1 (min len most) x.2) (fun x => [sl true 5 1 x.1 (min len most) x.2 ((bs.take most).map bv), slr 1 ad len (bs.map bv)]) := by
  refine Triple.of_body (args := [.slice ad len cap, .int .i64 (most : Int)]) Try.func27 rfl Try.ntmps27 (by simp) (fun g F => ?_)
  dsimp only [numb, List.cons_append, List.nil_append]
  refine WK.know (fun w s => And.intro (Sat.slrCell (s.sel1 (A := slr 1 ad len (bs.map bv)) (by repeat (first | exact .here | apply Sel.there)))).1 (Sat.slrCell (s.sel1 (A := slr 1 ad len (bs.map bv)) (by repeat (first | exact .here | apply Sel.there)))).2.2.1) (fun hkn => ?_)
  obtain ⟨n1, n3⟩ := hkn
  simp only [Nat.mul_one, List.length_map] at n1
  have hcut : bs.take (min len most) = bs.take most := by rw [List.take_eq_take_iff]; omega
  have hn : ad = none → min len most = 0 := fun h => by
    by_cases hb : bs = []
    · subst hb; simp at n1; omega
    · obtain ⟨b, o, h2⟩ := n3 (by simpa using hb)
      rw [h] at h2; cases h2
  refine WK.seq ?_
  refine WK.region ?_
  refine WL.yld (wanted_plain (by rfl)) (yld_assign (by rfl)) (by rfl) (by decide) ?_
  refine WL.done ?_
  refine WK.seq ?_
  refine WK.region ?_
  refine WL.yld (wanted_plain (by rfl)) (yld_assign (by rfl)) (by rfl) (by decide) ?_
  refine WL.done ?_
  refine WK.seq ?_
  refine WK.sat (fun w s => Sat.nilSl s true 5 1) ?_
  refine WK.region ?_
  refine WL.yld (wanted_plain (by rfl)) (yld_move (by rfl)) (by rfl) (by decide) ?_
  refine WL.yld (wanted_plain (by rfl)) (yld_move (by rfl)) (by rfl) (by decide) ?_
  refine WL.yld (wanted_plain (by rfl)) (yld_move (by rfl)) (by rfl) (by decide) ?_
  refine WL.yld (wanted_plain (by rfl)) (yld_len (by rfl) (by exact Try.runUnderlying31)) (by rfl) (by decide) ?_
  refine WL.yld (wanted_plain (by rfl)) (yld_move (by rfl)) (by rfl) (by decide) ?_
  refine WL.yld (wanted_plain (by rfl)) (yld_min (by rfl) (by rfl)) (by rfl) (by decide) ?_
  refine WL.yld (wanted_plain (by rfl)) (yld_slice_hi (by rfl) (by rfl) (by exact Try.runUnderlying31) (by exact Try.sizeOf5) (min len most) (by first | rfl | omega) (by omega)) (by rfl) (by decide) ?_
  refine WL.eff (wanted_plain (by rfl)) (eff_appendX (n2 := min len most) (ys := (bs.take most).map bv) (by rfl) (by rfl) (by exact elem31) (by repeat (first | exact .here | apply Sel.there)) (fun w s => by have := Sat.slrSrc (s.sel1 (A := slr 1 ad len (bs.map bv)) (by repeat (first | exact .here | apply Sel.there))) Try.underlying31 (min len most) cap (by omega) hn; rw [Nat.mul_one, ← List.map_take, hcut] at this; exact this) (by omega) (by omega)) (by rfl) (by decide) ?_
  rintro ⟨ad13, cap13⟩ -
  try dsimp only
  refine WL.yld (wanted_plain (by rfl)) (yld_assign (by rfl)) (by rfl) (by decide) ?_
  refine WL.done ?_
  refine WK.ret ?_
  repeat (first | refine RQ.block ?_ | refine RQ.then_ ?_)
  refine RQ.body (results1 (by rfl) (by rfl)) (fun w s => ?_)
  refine ⟨(ad13, cap13), trivial, ?_, ?_⟩
  · rw [Nat.zero_add]
  · rw [Nat.zero_add] at s
    exact s.toCs (by repeat (first | exact SelL.nil | exact SelL.self | apply SelL.cons | exact Sel.here | apply Sel.there | apply SelL.skip))
set_option maxRecDepth 20000 in
set_option maxHeartbeats 4000000 in
theorem detects_spec (sq ak at_ y : Int) (ad : Option Addr) (len cap : Nat) (bs : List UInt8) (hs : I64 sq) (ha : I64 ak) (hat : I64 at_) (hy : 0 ≤ y ∧ y ≤ 255) (hc : len ≤ cap) :
    Triple Try.prog 9 #[.int .i64 sq, .int .i64 ak, .slice ad len cap, .int .i64 at_, .int .u8 y] [slr 1 ad len (bs.map bv)] (Unit) (fun _ => True) (fun _ => .bool true) (fun _ => [slr 1 ad len (bs.map bv)]) := by
  refine Triple.of_body (args := [.int .i64 sq, .int .i64 ak, .slice ad len cap, .int .i64 at_, .int .u8 y]) Try.func9 rfl Try.ntmps9 (by simp) (fun g F => ?_)
  dsimp only [numb, List.cons_append, List.nil_append]
  refine WK.know (fun w s => And.intro (Sat.slrCell (s.sel1 (A := slr 1 ad len (bs.map bv)) (by repeat (first | exact .here | apply Sel.there)))).1 (Sat.slrCell (s.sel1 (A := slr 1 ad len (bs.map bv)) (by repeat (first | exact .here | apply Sel.there)))).2.2.1) (fun hkn => ?_)
  obtain ⟨n1, n3⟩ := hkn
  simp only [Nat.mul_one, List.length_map] at n1
  have r1 := aroundM_range sq 100000 (by omega)
  have r2 := aroundM_range ak 100000 (by omega)
  have hbl : (bs.take 200).length = min len 200 := by rw [List.length_take]; omega
  have hx : I64 (1 + aroundM sq 100000) := ⟨by omega, by omega⟩
  have hy2 : I64 (aroundM ak 100000) := ⟨by omega, by omega⟩
  have hval : validB (1 + aroundM sq 100000) (aroundM ak 100000) (bs.take 200).length = true := by unfold validB; simp; omega
  obtain ⟨C, H, W, hcl, hwl, henc, hH, hraw, hue, hwlen, hhash, hdetect⟩ := detKit hx hy2 (b := bs.take 200) (by omega) hval
  have hup := uintB_pos H
  have hul := uintB_le (n := C.length) (by omega)
  refine WK.seq ?_
  refine WK.region ?_
  refine WL.yld (wanted_plain (by rfl)) (yld_assign (by rfl)) (by rfl) (by decide) ?_
  refine WL.done ?_
  refine WK.seq ?_
  refine WK.region ?_
  refine WL.yld (wanted_plain (by rfl)) (yld_move (by rfl)) (by rfl) (by decide) ?_
  refine WL.eff (wanted_plain (by rfl)) (eff_call (by exact Try.call12) (by repeat (first | exact Evs.nil | apply Evs.cons | rfl)) (by repeat (first | exact SelL.nil | exact SelL.self | apply SelL.cons | exact Sel.here | apply Sel.there | apply SelL.skip)) (around_spec sq 100000 hs (by omega))) (by rfl) (by decide) ?_
  rintro _ -
  try dsimp only
  refine WL.yld (wanted_plain (by rfl)) (yld_add (by rfl) (by rfl) (by exact w64 (by omega) (by omega))) (by rfl) (by decide) ?_
  refine WL.yld (wanted_plain (by rfl)) (yld_move (by rfl)) (by rfl) (by decide) ?_
  refine WL.eff (wanted_plain (by rfl)) (eff_call (by exact Try.call12) (by repeat (first | exact Evs.nil | apply Evs.cons | rfl)) (by repeat (first | exact SelL.nil | exact SelL.self | apply SelL.cons | exact Sel.here | apply Sel.there | apply SelL.skip)) (around_spec ak 100000 ha (by omega))) (by rfl) (by decide) ?_
  rintro _ -
  try dsimp only
  refine WL.yld (wanted_plain (by rfl)) (yld_move (by rfl)) (by rfl) (by decide) ?_
  refine WL.eff (wanted_plain (by rfl)) (eff_call (by exact Try.call27) (by repeat (first | exact Evs.nil | apply Evs.cons | rfl)) (by repeat (first | exact SelL.nil | exact SelL.self | apply SelL.cons | exact Sel.here | apply Sel.there | apply SelL.skip)) (fewR_spec ad len cap bs 200 (by omega) hc)) (by rfl) (by decide) ?_
  rintro ⟨ad28, cap28⟩ -
  rw [← hbl]
  try dsimp only
  refine WL.yld (wanted_plain (by rfl)) (yld_build (by repeat (first | exact Prts.nil | apply Prts.cons | rfl)) (by exact Try.zeroValue44) (by exact Try.runUnderlying44) (by exact fun w => places44 w Try.underlying44) (by first | decide | simp) (by repeat (first | exact Fill.nil | apply Fill.cons | exact SetAts.nil | apply SetAts.cons | exact SetAt.here | apply SetAt.there | rfl))) (by rfl) (by decide) ?_
  refine WL.eff (wanted_plain (by rfl)) (eff_alloc (by exact Try.zeroValue44) (by rfl)) (by rfl) (by decide) ?_
  rintro b11 -
  try dsimp only
  refine WL.eff0 (wanted_plain (by rfl)) (eff_store (by rfl) (by rfl) (by exact Try.sizeOf44) (by rfl) (by rfl) (by rfl) (by repeat (first | exact .here | apply Sel.there)) (by repeat (first | exact SetAts.nil | apply SetAts.cons | exact SetAt.here | apply SetAt.there))) (by rfl) ?_
  rintro _ -
  try dsimp only
  refine WL.done ?_
  refine WK.seq ?_
  refine WK.region ?_
  refine WL.yld (wanted_plain (by rfl)) (yld_loadA (by rfl) (by exact Try.isAgg44) (by exact Try.sizeOf44) (by repeat (first | exact .here | apply Sel.there)) (by repeat (first | exact Cells.nil | apply Cells.cons | rfl))) (by rfl) (by decide) ?_
  refine WL.eff (wanted_plain (by rfl)) (eff_call (by exact Try.call28) (by repeat (first | exact Evs.nil | apply Evs.cons | rfl)) (by repeat (first | exact SelL.nil | exact SelL.self | apply SelL.cons | exact Sel.here | apply Sel.there | apply SelL.skip)) (encode_spec (1 + aroundM sq 100000) (aroundM ak 100000) true ad28 (bs.take 200).length cap28 (bs.take 200) hx hy2 (by omega))) (by rfl) (by decide) ?_
  rintro ⟨ad32, len32, cap32⟩ hl32
  rw [henc] at hl32 ⊢
  rw [hval]
  dsimp only at hl32 ⊢
  subst hl32
  try dsimp only
  refine WL.yld (wanted_plain (by rfl)) (yld_move (by rfl)) (by rfl) (by decide) ?_
  refine WL.yld (wanted_plain (by rfl)) (yld_extract (by rfl) (by rfl)) (by rfl) (by decide) ?_
  refine WL.yld (wanted_plain (by rfl)) (yld_extract (by rfl) (by rfl)) (by rfl) (by decide) ?_
  refine WL.yld (wanted_plain (by rfl)) (yld_assign (by rfl)) (by rfl) (by decide) ?_
  refine WL.yld (wanted_plain (by rfl)) (yld_assign (by rfl)) (by rfl) (by decide) ?_
  refine WL.done ?_
  refine WK.seq ?_
  refine WK.region ?_
  refine WL.yld (wanted_plain (by rfl)) (yld_move (by rfl)) (by rfl) (by decide) ?_
  refine WL.eff (wanted_plain (by rfl)) (eff_call (by exact Try.call35) (by repeat (first | exact Evs.nil | apply Evs.cons | rfl)) (by repeat (first | exact SelL.nil | exact SelL.self | apply SelL.cons | exact Sel.here | apply Sel.there | apply SelL.skip)) (read_spec true ad32 W.length cap32 W (by omega))) (by rfl) (by decide) ?_
  rintro q36 -
  try dsimp only
  refine WL.yld (wanted_plain (by rfl)) (yld_assign (by rfl)) (by rfl) (by decide) ?_
  refine WL.done ?_
  refine WK.seq ?_
  refine WK.seq ?_
  refine WK.region ?_
  refine WL.yld (wanted_plain (by rfl)) (yld_move (by rfl)) (by rfl) (by decide) ?_
  refine WL.yld (wanted_plain (by rfl)) (yld_neq (by rfl) (by rfl)) (by rfl) (by decide) ?_
  refine WL.yld (wanted_plain (by rfl)) (yld_move (by rfl)) (by rfl) (by decide) ?_
  refine WL.split (d := 39) (by rfl) (fun hc39 => ?_) (fun hc39 => ?_)
  · skip
    have hc39 := of_decide_eq_true hc39
    exact (hc39 rfl).elim
  · skip
    have hc39 := of_decide_eq_false hc39
    refine WL.yld (wanted_some (by rfl) (by rfl) (by rfl)) (yld_move (by rfl)) (by rfl) (by decide) ?_
    refine WL.yld (wanted_some (by rfl) (by rfl) (by rfl)) (yld_eqlPtr (by rfl) (by rfl) (by exact Try.runUnderlying72)) (by rfl) (by decide) ?_
    refine WL.yld (wanted_plain (by rfl)) (yld_pick_false (by rfl) (by rfl)) (by rfl) (by decide) ?_
    refine WL.done ?_
    refine WK.cond (by rfl) (fun h => by cases h) (fun _ => ?_)
    refine WK.skip ?_
    refine WK.seq ?_
    refine WK.region ?_
    refine WL.yld (wanted_plain (by rfl)) (yld_move (by rfl)) (by rfl) (by decide) ?_
    refine WL.eff (wanted_plain (by rfl)) (eff_call (by exact Try.call36) (by repeat (first | exact Evs.nil | apply Evs.cons | rfl)) (by repeat (first | exact SelL.nil | exact SelL.self | apply SelL.cons | exact Sel.here | apply Sel.there | apply SelL.skip)) (rdRaw_spec q36 W 0 (fun _ => by omega))) (by rfl) (by decide) ?_
    rintro ⟨⟨bs44, e44⟩, ad44, len44, cap44⟩ hx44
    have hx44 : RawQ W 0 ((bs44, e44), (ad44, len44, cap44)) := hx44
    obtain ⟨h44a, h44b⟩ : (bs44, e44) = (uintB H, (0 : Int)) ∧ len44 = C.length := by unfold RawQ at hx44; rw [hraw] at hx44; exact hx44
    cases h44a
    subst h44b
    rw [show rawV W 0 = C from by unfold rawV; rw [hraw]; rfl]
    try dsimp only
    refine WL.yld (wanted_plain (by rfl)) (yld_assign (by rfl)) (by rfl) (by decide) ?_
    refine WL.done ?_
    refine WK.seq ?_
    refine WK.region ?_
    refine WL.yld (wanted_plain (by rfl)) (yld_move (by rfl)) (by rfl) (by decide) ?_
    refine WL.eff (wanted_plain (by rfl)) (eff_call (by exact Try.call37) (by repeat (first | exact Evs.nil | apply Evs.cons | rfl)) (by repeat (first | exact SelL.nil | exact SelL.self | apply SelL.cons | exact Sel.here | apply Sel.there | apply SelL.skip)) (rdUint_spec q36 (uintB H) 0)) (by rfl) (by decide) ?_
    rintro ⟨bs46, e46⟩ hx46
    have hx46 : UintQ (uintB H) 0 (bs46, e46) := hx46
    obtain h46a : (bs46, e46) = ([], (0 : Int)) := by unfold UintQ at hx46; rw [hue] at hx46; exact hx46
    cases h46a
    rw [show (((uintE (uintB H) 0).map Prod.fst).getD 0) = H from by rw [hue]; rfl]
    try dsimp only
    refine WL.yld (wanted_plain (by rfl)) (yld_assign (by rfl)) (by rfl) (by decide) ?_
    refine WL.done ?_
    refine WK.seq ?_
    refine WK.region ?_
    refine WL.eff (wanted_plain (by rfl)) (eff_alloc (by exact Try.zeroValue78) (by rfl)) (by rfl) (by decide) ?_
    rintro b17 -
    try dsimp only
    refine WL.done ?_
    refine WK.sat (fun w s => Sat.wrNew (s.sel1 (A := row true b17 78 [.slice none 0 0]) (by repeat (first | exact .here | apply Sel.there)))) ?_
    refine WK.seq ?_
    refine WK.region ?_
    refine WL.yld (wanted_plain (by rfl)) (yld_move (by rfl)) (by rfl) (by decide) ?_
    refine WL.yld (wanted_plain (by rfl)) (yld_len (by rfl) (by exact Try.runUnderlying31)) (by rfl) (by decide) ?_
    refine WL.yld (wanted_plain (by rfl)) (yld_convInt (by rfl) (by exact Try.runUnderlying3) (by exact Try.runUnderlying75) (by exact wU64 (by omega) (by omega))) (by rfl) (by decide) ?_
    refine WL.eff (wanted_plain (by rfl)) (eff_call (by exact Try.call38) (by repeat (first | exact Evs.nil | apply Evs.cons | rfl)) (by repeat (first | exact SelL.nil | exact SelL.self | apply SelL.cons | exact Sel.here | apply Sel.there | apply SelL.skip)) (wrUint_spec b17 [] C.length (by omega) (by simp))) (by rfl) (by decide) ?_
    rintro _ -
    dsimp only [List.nil_append]
    try dsimp only
    refine WL.done ?_
    refine WK.seq ?_
    refine WK.region ?_
    refine WL.eff (wanted_plain (by rfl)) (eff_call (by exact Try.call39) (by repeat (first | exact Evs.nil | apply Evs.cons | rfl)) (by repeat (first | exact SelL.nil | exact SelL.self | apply SelL.cons | exact Sel.here | apply Sel.there | apply SelL.skip)) (wrDone_spec b17 (uintB C.length) (by omega))) (by rfl) (by decide) ?_
    rintro ⟨ad51, len51, cap51⟩ hl51
    dsimp only at hl51
    subst hl51
    try dsimp only
    refine WL.yld (wanted_plain (by rfl)) (yld_len (by rfl) (by exact Try.runUnderlying31)) (by rfl) (by decide) ?_
    refine WL.yld (wanted_plain (by rfl)) (yld_assign (by rfl)) (by rfl) (by decide) ?_
    refine WL.done ?_
    refine WK.seq ?_
    refine WK.seq ?_
    refine WK.region ?_
    refine WL.yld (wanted_plain (by rfl)) (yld_move (by rfl)) (by rfl) (by decide) ?_
    refine WL.eff (wanted_plain (by rfl)) (eff_call (by exact Try.call40) (by repeat (first | exact Evs.nil | apply Evs.cons | rfl)) (by repeat (first | exact SelL.nil | exact SelL.self | apply SelL.cons | exact Sel.here | apply Sel.there | apply SelL.skip)) (rdEnd_spec q36 [] 0)) (by rfl) (by decide) ?_
    rintro _ -
    try dsimp only
    refine WL.yld (wanted_plain (by rfl)) (yld_neq (by rfl) (by rfl)) (by rfl) (by decide) ?_
    refine WL.yld (wanted_plain (by rfl)) (yld_move (by rfl)) (by rfl) (by decide) ?_
    refine WL.split (d := 56) (by rfl) (fun hc56 => ?_) (fun hc56 => ?_)
    · skip
      have hc56 := of_decide_eq_true hc56
      exact (hc56 (by simp)).elim
    · skip
      have hc56 := of_decide_eq_false hc56
      refine WL.yld (wanted_some (by rfl) (by rfl) (by rfl)) (yld_move (by rfl)) (by rfl) (by decide) ?_
      refine WL.yld (wanted_some (by rfl) (by rfl) (by rfl)) (yld_move (by rfl)) (by rfl) (by decide) ?_
      refine WL.eff (wanted_some (by rfl) (by rfl) (by rfl)) (eff_call (by exact Try.call41) (by repeat (first | exact Evs.nil | apply Evs.cons | rfl)) (by repeat (first | exact SelL.nil | exact SelL.self | apply SelL.cons | exact Sel.here | apply Sel.there | apply SelL.skip)) (hbytes_spec parcel true ad44 C.length cap44 C (by decide) (by omega))) (by rfl) (by decide) ?_
      rintro _ -
      rw [hhash]
      try dsimp only
      refine WL.yld (wanted_some (by rfl) (by rfl) (by rfl)) (yld_neq (by rfl) (by rfl)) (by rfl) (by decide) ?_
      refine WL.yld (wanted_plain (by rfl)) (yld_pick_false (by rfl) (by rfl)) (by rfl) (by decide) ?_
      refine WL.yld (wanted_plain (by rfl)) (yld_move (by rfl)) (by rfl) (by decide) ?_
      refine WL.split (d := 62) (by rfl) (fun hc62 => ?_) (fun hc62 => ?_)
      · skip
        have hc62 := of_decide_eq_true hc62
        exact (hc62 rfl).elim
      · skip
        have hc62 := of_decide_eq_false hc62
        refine WL.yld (wanted_some (by rfl) (by rfl) (by rfl)) (yld_move (by rfl)) (by rfl) (by decide) ?_
        refine WL.yld (wanted_some (by rfl) (by rfl) (by rfl)) (yld_len (by rfl) (by exact Try.runUnderlying31)) (by rfl) (by decide) ?_
        refine WL.yld (wanted_some (by rfl) (by rfl) (by rfl)) (yld_move (by rfl)) (by rfl) (by decide) ?_
        refine WL.yld (wanted_some (by rfl) (by rfl) (by rfl)) (yld_leq (by rfl) (by rfl)) (by rfl) (by decide) ?_
        refine WL.yld (wanted_plain (by rfl)) (yld_pick_false (by rfl) (by rfl)) (by rfl) (by decide) ?_
        refine WL.done ?_
        refine WK.cond (by rfl) (fun hc67 => ?_) (fun hc67 => ?_)
        · skip
          have hc67 := of_decide_eq_true hc67
          omega
        · skip
          have hc67 := of_decide_eq_false hc67
          refine WK.skip ?_
          refine WK.seq ?_
          refine WK.region ?_
          refine WL.yld (wanted_plain (by rfl)) (yld_move (by rfl)) (by rfl) (by decide) ?_
          refine WL.yld (wanted_plain (by rfl)) (yld_move (by rfl)) (by rfl) (by decide) ?_
          refine WL.yld (wanted_plain (by rfl)) (yld_move (by rfl)) (by rfl) (by decide) ?_
          refine WL.yld (wanted_plain (by rfl)) (yld_len (by rfl) (by exact Try.runUnderlying31)) (by rfl) (by decide) ?_
          refine WL.yld (wanted_plain (by rfl)) (yld_move (by rfl)) (by rfl) (by decide) ?_
          refine WL.yld (wanted_plain (by rfl)) (yld_sub (by rfl) (by rfl) (by exact w64 (by omega) (by omega))) (by rfl) (by decide) ?_
          refine WL.eff (wanted_plain (by rfl)) (eff_call (by exact Try.call12) (by repeat (first | exact Evs.nil | apply Evs.cons | rfl)) (by repeat (first | exact SelL.nil | exact SelL.self | apply SelL.cons | exact Sel.here | apply Sel.there | apply SelL.skip)) (around_spec at_ (W.length - (uintB C.length).length) hat (by omega))) (by rfl) (by decide) ?_
          rintro _ -
          have r3 := aroundM_range at_ (W.length - (uintB C.length).length) (by omega)
          obtain ⟨k, hk⟩ : ∃ k : Nat, ((uintB C.length).length : Int) + aroundM at_ (W.length - (uintB C.length).length) = k := ⟨(((uintB C.length).length : Int) + aroundM at_ (W.length - (uintB C.length).length)).toNat, by omega⟩
          try dsimp only
          refine WL.yld (wanted_plain (by rfl)) (yld_add (by rfl) (by rfl) (by exact w64 (by omega) (by omega))) (by rfl) (by decide) ?_
          refine WL.yld (wanted_plain (by rfl)) (yld_assign (by rfl)) (by rfl) (by decide) ?_
          refine WL.done ?_
          rw [hk]
          obtain ⟨c, hck⟩ : ∃ c, W[k]? = some c := ⟨_, List.getElem?_eq_getElem (by omega)⟩
          have hc8 := c.toNat_lt
          have hxor := xor_ne (a := c.toNat) (b := 1 + y.tmod 255) ⟨by omega, by omega⟩ (by rw [Int.tmod_eq_emod_of_nonneg hy.1]; omega)
          obtain ⟨c2, hc2⟩ : ∃ c2 : UInt8, bXor .u8 (c.toNat : Int) (1 + y.tmod 255) = (c2.toNat : Int) := ⟨UInt8.ofNat (bXor .u8 (c.toNat : Int) (1 + y.tmod 255)).toNat, by rw [u8of (by omega)]; omega⟩
          have hne : W[k]? ≠ some c2 := by rw [hck]; rintro h; cases h; exact hxor.1 hc2
          refine WK.seq ?_
          refine WK.region ?_
          refine WL.yld (wanted_plain (by rfl)) (yld_move (by rfl)) (by rfl) (by decide) ?_
          refine WL.yld (wanted_plain (by rfl)) (yld_move (by rfl)) (by rfl) (by decide) ?_
          refine WL.yld (wanted_plain (by rfl)) (yld_move (by rfl)) (by rfl) (by decide) ?_
          refine WL.yld (wanted_plain (by rfl)) (yld_move (by rfl)) (by rfl) (by decide) ?_
          refine WL.yld (wanted_plain (by rfl)) (yld_indexAddrS (by rfl) (by rfl) (by exact Try.runUnderlying31) (by exact Try.sizeOf5) (by repeat (first | exact .here | apply Sel.there)) (k) (by first | rfl | omega) (by omega) (by omega) (by exact Nat.mul_one _)) (by rfl) (by decide) ?_
          refine WL.yld (wanted_plain (by rfl)) (yld_loadS (by rfl) (by exact Try.isAgg5) (by repeat (first | exact .here | apply Sel.there)) (by rw [List.getElem?_map, hck]; rfl)) (by rfl) (by decide) ?_
          refine WL.yld (wanted_plain (by rfl)) (yld_move (by rfl)) (by rfl) (by decide) ?_
          refine WL.yld (wanted_plain (by rfl)) (yld_rem (by rfl) (by rfl) (by omega) (by rfl)) (by rfl) (by decide) ?_
          refine WL.yld (wanted_plain (by rfl)) (yld_add (by rfl) (by rfl) (by exact wU8 (by rw [Int.tmod_eq_emod_of_nonneg hy.1]; omega) (by rw [Int.tmod_eq_emod_of_nonneg hy.1]; omega))) (by rfl) (by decide) ?_
          refine WL.yld (wanted_plain (by rfl)) (yld_xor (by rfl) (by rfl) (by exact hc2)) (by rfl) (by decide) ?_
          refine WL.yld (wanted_plain (by rfl)) (yld_indexAddrS (by rfl) (by rfl) (by exact Try.runUnderlying31) (by exact Try.sizeOf5) (by repeat (first | exact .here | apply Sel.there)) (k) (by first | rfl | omega) (by omega) (by omega) (by exact Nat.mul_one _)) (by rfl) (by decide) ?_
          refine WL.eff0 (wanted_plain (by rfl)) (eff_storeS (by rfl) (by rfl) (by exact Try.sizeOf5) (by rfl) (by rfl) (by rfl) (by simp) (by repeat (first | exact .here | apply Sel.there)) (SetAts.cons (SetAt.mk (by rw [List.length_map]; omega)) SetAts.nil)) (by rfl) ?_
          rintro _ -
          try dsimp only
          refine WL.done ?_
          refine WK.seq ?_
          rw [show (W.map bv).set k (.int .u8 (c2.toNat : Int)) = (W.set k c2).map bv from by rw [List.map_set]; rfl]
          refine WK.region ?_
          refine WL.yld (wanted_plain (by rfl)) (yld_move (by rfl)) (by rfl) (by decide) ?_
          refine WL.eff (wanted_plain (by rfl)) (eff_call (by exact Try.call32) (by repeat (first | exact Evs.nil | apply Evs.cons | rfl)) (by repeat (first | exact SelL.nil | exact SelL.self | apply SelL.cons | exact Sel.here | apply Sel.there | apply SelL.skip)) (decode_spec true ad32 W.length cap32 (W.set k c2) (by omega))) (by rfl) (by decide) ?_
          rintro ⟨ad89, len89, cap89⟩ hl89
          have hdet := hdetect k c2 (by omega) (by omega) hne
          have herr := decM_err (W.set k c2)
          try dsimp only
          refine WL.yld (wanted_plain (by rfl)) (yld_move (by rfl)) (by rfl) (by decide) ?_
          refine WL.yld (wanted_plain (by rfl)) (yld_extract (by rfl) (by rfl)) (by rfl) (by decide) ?_
          refine WL.yld (wanted_plain (by rfl)) (yld_extract (by rfl) (by rfl)) (by rfl) (by decide) ?_
          refine WL.eff (wanted_plain (by rfl)) (eff_alloc (by exact Try.zeroValue44) (by rfl)) (by rfl) (by decide) ?_
          rintro b20 -
          try dsimp only
          refine WL.eff0 (wanted_plain (by rfl)) (eff_store (by rfl) (by rfl) (by exact Try.sizeOf44) (by rfl) (by rfl) (by rfl) (by repeat (first | exact .here | apply Sel.there)) (by repeat (first | exact SetAts.nil | apply SetAts.cons | exact SetAt.here | apply SetAt.there))) (by rfl) ?_
          rintro _ -
          try dsimp only
          refine WL.yld (wanted_plain (by rfl)) (yld_assign (by rfl)) (by rfl) (by decide) ?_
          refine WL.done ?_
          refine WK.seq ?_
          refine WK.region ?_
          refine WL.yld (wanted_plain (by rfl)) (yld_move (by rfl)) (by rfl) (by decide) ?_
          refine WL.yld (wanted_plain (by rfl)) (yld_eql (by rfl) (by rfl)) (by rfl) (by decide) ?_
          refine WL.yld (wanted_plain (by rfl)) (yld_move (by rfl)) (by rfl) (by decide) ?_
          refine WL.split (d := 94) (by rfl) (fun hc94 => ?_) (fun hc94 => ?_)
          · skip
            have hc94 := of_decide_eq_true hc94
            refine WL.skip (unwanted_some (by rfl) (by rfl) (by rfl) (by rfl)) (by rfl) (by decide) ?_
            refine WL.skip (unwanted_some (by rfl) (by rfl) (by rfl) (by rfl)) (by rfl) (by decide) ?_
            refine WL.yld (wanted_plain (by rfl)) (yld_pick_true (by rfl) (by rfl)) (by rfl) (by decide) ?_
            refine WL.yld (wanted_plain (by rfl)) (yld_move (by rfl)) (by rfl) (by decide) ?_
            refine WL.eff (wanted_some (by rfl) (by rfl) (by rfl)) (eff_call (by exact Try.call23) (by repeat (first | exact Evs.nil | apply Evs.cons | rfl)) (by repeat (first | exact SelL.nil | exact SelL.self | apply SelL.cons | exact Sel.here | apply Sel.there | apply SelL.skip)) lives_spec) (by rfl) (by decide) ?_
            rintro _ -
            try dsimp only
            refine WL.yld (wanted_plain (by rfl)) (yld_pick_true (by rfl) (by rfl)) (by rfl) (by decide) ?_
            refine WL.yld (wanted_plain (by rfl)) (yld_assign (by rfl)) (by rfl) (by decide) ?_
            refine WL.done ?_
            refine WK.ret ?_
            repeat (first | refine RQ.block ?_ | refine RQ.then_ ?_)
            refine RQ.body (results1 (by rfl) (by rfl)) (fun w s => ?_)
            exact ⟨(), trivial, rfl, s.toCs (by repeat (first | exact SelL.nil | exact SelL.self | apply SelL.cons | exact Sel.here | apply Sel.there | apply SelL.skip))⟩
          · skip
            have hc94 := of_decide_eq_false hc94
            refine WL.yld (wanted_some (by rfl) (by rfl) (by rfl)) (yld_move (by rfl)) (by rfl) (by decide) ?_
            refine WL.yld (wanted_some (by rfl) (by rfl) (by rfl)) (yld_eql (by rfl) (by rfl)) (by rfl) (by decide) ?_
            refine WL.yld (wanted_plain (by rfl)) (yld_pick_false (by rfl) (by rfl)) (by rfl) (by decide) ?_
            refine WL.yld (wanted_plain (by rfl)) (yld_move (by rfl)) (by rfl) (by decide) ?_
            refine WL.split (d := 98) (by rfl) (fun hc98 => ?_) (fun hc98 => ?_)
            · skip
              have hc98 := of_decide_eq_true hc98
              refine WL.eff (wanted_some (by rfl) (by rfl) (by rfl)) (eff_call (by exact Try.call23) (by repeat (first | exact Evs.nil | apply Evs.cons | rfl)) (by repeat (first | exact SelL.nil | exact SelL.self | apply SelL.cons | exact Sel.here | apply Sel.there | apply SelL.skip)) lives_spec) (by rfl) (by decide) ?_
              rintro _ -
              try dsimp only
              refine WL.yld (wanted_plain (by rfl)) (yld_pick_true (by rfl) (by rfl)) (by rfl) (by decide) ?_
              refine WL.yld (wanted_plain (by rfl)) (yld_assign (by rfl)) (by rfl) (by decide) ?_
              refine WL.done ?_
              refine WK.ret ?_
              repeat (first | refine RQ.block ?_ | refine RQ.then_ ?_)
              refine RQ.body (results1 (by rfl) (by rfl)) (fun w s => ?_)
              exact ⟨(), trivial, rfl, s.toCs (by repeat (first | exact SelL.nil | exact SelL.self | apply SelL.cons | exact Sel.here | apply Sel.there | apply SelL.skip))⟩
            · skip
              have hc98 := of_decide_eq_false hc98
              omega
end Go.Proofs.Ytnknclbiamhnaaa
