import Derived.Test.YtnknclbiamhnaaaChanH
import Derived.Test.YtnknclbiamhnaaaSepT
namespace Go.Proofs.Ytnknclbiamhnaaa
set_option linter.unusedVariables false
set_option linter.unusedSimpArgs false
set_option linter.unusedSectionVars false
open Go Go.Sep
attribute [local irreducible] row sl mapO held exL allR byt mapI slr
set_option maxRecDepth 20000 in
set_option maxHeartbeats 8000000 in
theorem encoding_spec (x y at_ : Int) (c : UInt8) (ad ad3 : Option Addr) (len cap len3 cap3 : Nat) (bs raw : List UInt8) (hx : I64 x) (hy : I64 y) (hat : I64 at_) (hc : len ≤ cap) (hc3 : len3 ≤ cap3) :
    Triple Try.prog 8 #[.agg #[.int .i64 x, .int .i64 y, .slice ad len cap], .int .i64 at_, .int .u8 (c.toNat : Int), .slice ad3 len3 cap3] [slr 1 ad len (bs.map bv), slr 1 ad3 len3 (raw.map bv)] (Unit) (fun _ => True) (fun _ => .bool true) (fun _ => [slr 1 ad len (bs.map bv), slr 1 ad3 len3 (raw.map bv)]) := by
  refine Triple.of_body (args := [.agg #[.int .i64 x, .int .i64 y, .slice ad len cap], .int .i64 at_, .int .u8 (c.toNat : Int), .slice ad3 len3 cap3]) Try.func8 rfl Try.ntmps8 (by simp) (fun g F => ?_)
  dsimp only [numb, List.cons_append, List.nil_append]
  refine WK.know (fun w s => And.intro (Sat.slrCell (s.sel1 (A := slr 1 ad len (bs.map bv)) (by repeat (first | exact .here | apply Sel.there)))).1 (Sat.slrCell (s.sel1 (A := slr 1 ad3 len3 (raw.map bv)) (by repeat (first | exact .here | apply Sel.there)))).1) (fun hkn => ?_)
  obtain ⟨n1, n3⟩ := hkn
  simp only [Nat.mul_one, List.length_map] at n1 n3
  have hc8 := c.toNat_lt
  obtain ⟨b, hb⟩ : ∃ b, bs.take 40 = b := ⟨_, rfl⟩
  obtain ⟨fr, hfr⟩ : ∃ fr, raw.take 40 = fr := ⟨_, rfl⟩
  have hbl : b.length = min len 40 := by rw [← hb, List.length_take]; omega
  have hfl : fr.length = min len3 40 := by rw [← hfr, List.length_take]; omega
  obtain ⟨E, hE⟩ : ∃ E, encM x y b = E := ⟨_, rfl⟩
  have hEl := encM_len hx hy (b := b) (by omega)
  rw [hE] at hEl
  have r1 := aroundM_range x 300 (by omega)
  have r2 := aroundM_range y 300 (by omega)
  have hx2 : I64 (1 + aroundM x 300) := ⟨by omega, by omega⟩
  have hy2 : I64 (aroundM y 300) := ⟨by omega, by omega⟩
  have hval : validB (1 + aroundM x 300) (aroundM y 300) b.length = true := by unfold validB; simp; omega
  obtain ⟨C, H, W, hcl, hwl, henc, hH, -, -, hwlen, -, -⟩ := detKit hx2 hy2 (b := b) (by omega) hval
  have hup := uintB_pos H
  have hfw := wholeM_len (c := fr) (by omega)
  refine WK.seq ?_
  refine WK.region ?_
  refine WL.eff (wanted_plain (by rfl)) (eff_box (by rfl) (by rfl)) (by rfl) (by decide) ?_
  rintro b4 -
  try dsimp only
  refine WL.yld (wanted_plain (by rfl)) (yld_assign (by rfl)) (by rfl) (by decide) ?_
  refine WL.done ?_
  refine WK.seq ?_
  refine WK.region ?_
  refine WL.yld (wanted_plain (by rfl)) (yld_fieldAddr (by rfl) (by exact Try.runUnderlying44) (by rfl) (by exact Try.sizeOf31) (by rfl) (by rfl)) (by rfl) (by decide) ?_
  refine WL.yld (wanted_plain (by rfl)) (yld_load (by rfl) (by exact Try.isAgg31) (by repeat (first | exact .here | apply Sel.there)) (by rfl)) (by rfl) (by decide) ?_
  refine WL.eff (wanted_plain (by rfl)) (eff_call (by exact Try.call27) (by repeat (first | exact Evs.nil | apply Evs.cons | rfl)) (by repeat (first | exact SelL.nil | exact SelL.self | apply SelL.cons | exact Sel.here | apply Sel.there | apply SelL.skip)) (fewR_spec ad len cap bs 40 (by omega) hc)) (by rfl) (by decide) ?_
  rintro ⟨ad26, cap26⟩ -
  rw [← hbl, hb]
  try dsimp only
  refine WL.yld (wanted_plain (by rfl)) (yld_fieldAddr (by rfl) (by exact Try.runUnderlying44) (by rfl) (by exact Try.sizeOf31) (by rfl) (by rfl)) (by rfl) (by decide) ?_
  refine WL.eff0 (wanted_plain (by rfl)) (eff_store (by rfl) (by rfl) (by exact Try.sizeOf31) (by rfl) (by rfl) (by rfl) (by repeat (first | exact .here | apply Sel.there)) (by repeat (first | exact SetAts.nil | apply SetAts.cons | exact SetAt.here | apply SetAt.there))) (by rfl) ?_
  rintro _ -
  try dsimp only
  refine WL.done ?_
  refine WK.seq ?_
  refine WK.region ?_
  refine WL.yld (wanted_plain (by rfl)) (yld_loadA (by rfl) (by exact Try.isAgg44) (by exact Try.sizeOf44) (by repeat (first | exact .here | apply Sel.there)) (by repeat (first | exact Cells.nil | apply Cells.cons | rfl))) (by rfl) (by decide) ?_
  refine WL.eff (wanted_plain (by rfl)) (eff_call (by exact Try.call28) (by repeat (first | exact Evs.nil | apply Evs.cons | rfl)) (by repeat (first | exact SelL.nil | exact SelL.self | apply SelL.cons | exact Sel.here | apply Sel.there | apply SelL.skip)) (encode_spec x y true ad26 b.length cap26 b hx hy (by omega))) (by rfl) (by decide) ?_
  rintro ⟨ad30, len30, cap30⟩ hl30
  rw [hE] at hl30 ⊢
  dsimp only at hl30 ⊢
  try dsimp only
  refine WL.yld (wanted_plain (by rfl)) (yld_move (by rfl)) (by rfl) (by decide) ?_
  refine WL.yld (wanted_plain (by rfl)) (yld_extract (by rfl) (by rfl)) (by rfl) (by decide) ?_
  refine WL.yld (wanted_plain (by rfl)) (yld_extract (by rfl) (by rfl)) (by rfl) (by decide) ?_
  refine WL.yld (wanted_plain (by rfl)) (yld_assign (by rfl)) (by rfl) (by decide) ?_
  refine WL.yld (wanted_plain (by rfl)) (yld_assign (by rfl)) (by rfl) (by decide) ?_
  refine WL.done ?_
  refine WK.seq ?_
  refine WK.region ?_
  refine WL.yld (wanted_plain (by rfl)) (yld_loadA (by rfl) (by exact Try.isAgg44) (by exact Try.sizeOf44) (by repeat (first | exact .here | apply Sel.there)) (by repeat (first | exact Cells.nil | apply Cells.cons | rfl))) (by rfl) (by decide) ?_
  refine WL.eff (wanted_plain (by rfl)) (eff_call (by exact Try.call30) (by repeat (first | exact Evs.nil | apply Evs.cons | rfl)) (by repeat (first | exact SelL.nil | exact SelL.self | apply SelL.cons | exact Sel.here | apply Sel.there | apply SelL.skip)) (plain_spec x y ad26 b.length cap26)) (by rfl) (by decide) ?_
  rintro _ -
  try dsimp only
  refine WL.eff (wanted_plain (by rfl)) (eff_call (by exact Try.call29) (by repeat (first | exact Evs.nil | apply Evs.cons | rfl)) (by repeat (first | exact SelL.nil | exact SelL.self | apply SelL.cons | exact Sel.here | apply Sel.there | apply SelL.skip)) (refEncode_spec x y true ad26 b.length cap26 b hx hy (by omega))) (by rfl) (by decide) ?_
  rintro ⟨ad36, len36, cap36⟩ hl36
  rw [hE] at hl36 ⊢
  dsimp only at hl36 ⊢
  try dsimp only
  refine WL.yld (wanted_plain (by rfl)) (yld_move (by rfl)) (by rfl) (by decide) ?_
  refine WL.yld (wanted_plain (by rfl)) (yld_extract (by rfl) (by rfl)) (by rfl) (by decide) ?_
  refine WL.yld (wanted_plain (by rfl)) (yld_extract (by rfl) (by rfl)) (by rfl) (by decide) ?_
  refine WL.yld (wanted_plain (by rfl)) (yld_assign (by rfl)) (by rfl) (by decide) ?_
  refine WL.yld (wanted_plain (by rfl)) (yld_assign (by rfl)) (by rfl) (by decide) ?_
  refine WL.done ?_
  refine WK.seq ?_
  refine WK.seq ?_
  refine WK.region ?_
  refine WL.yld (wanted_plain (by rfl)) (yld_move (by rfl)) (by rfl) (by decide) ?_
  refine WL.yld (wanted_plain (by rfl)) (yld_move (by rfl)) (by rfl) (by decide) ?_
  refine WL.yld (wanted_plain (by rfl)) (yld_neq (by rfl) (by rfl)) (by rfl) (by decide) ?_
  refine WL.yld (wanted_plain (by rfl)) (yld_move (by rfl)) (by rfl) (by decide) ?_
  refine WL.split (d := 42) (by rfl) (fun hc42 => ?_) (fun hc42 => ?_)
  · skip
    have hc42 := of_decide_eq_true hc42
    exact (hc42 rfl).elim
  · skip
    have hc42 := of_decide_eq_false hc42
    refine WL.yld (wanted_some (by rfl) (by rfl) (by rfl)) (yld_move (by rfl)) (by rfl) (by decide) ?_
    refine WL.yld (wanted_some (by rfl) (by rfl) (by rfl)) (yld_move (by rfl)) (by rfl) (by decide) ?_
    refine WL.eff (wanted_some (by rfl) (by rfl) (by rfl)) (eff_call (by exact Try.call24) (by repeat (first | exact Evs.nil | apply Evs.cons | rfl)) (by repeat (first | exact SelL.nil | exact SelL.self | apply SelL.cons | exact Sel.here | apply Sel.there | apply SelL.skip)) (sameBytes_spec true true ad30 ad36 len30 cap30 len36 cap36 E E (by omega))) (by rfl) (by decide) ?_
    rintro _ -
    rw [decide_eq_true rfl]
    try dsimp only
    refine WL.yld (wanted_some (by rfl) (by rfl) (by rfl)) (yld_not (by rfl)) (by rfl) (by decide) ?_
    refine WL.yld (wanted_plain (by rfl)) (yld_pick_false (by rfl) (by rfl)) (by rfl) (by decide) ?_
    refine WL.done ?_
    refine WK.cond (by rfl) (fun h => by cases h) (fun _ => ?_)
    refine WK.skip ?_
    refine WK.seq ?_
    refine WK.cut (ι := Nat) (fun _ => True) (fun q => [(1, .int .i64 at_), (2, .int .u8 (c.toNat : Int)), (3, .slice ad3 len3 cap3), (9, .slice ad30 len30 cap30), (13, .pointer (some ⟨q, 0, none⟩))]) (fun q => row true q 40 [.int .i64 (1 + aroundM x 300), .int .i64 (aroundM y 300), .slice ad26 b.length cap26] :: sl true 5 1 ad26 b.length cap26 (b.map bv) :: sl true 5 1 ad30 len30 cap30 (E.map bv) :: slr 1 ad len (bs.map bv) :: slr 1 ad3 len3 (raw.map bv) :: F) ?_ ?_
    · skip
      rintro b13 -
      refine WK.seq ?_
      refine WK.region ?_
      refine WL.yld (wanted_plain (by rfl)) (yld_loadA (by rfl) (by exact Try.isAgg40) (by exact Try.sizeOf40) (by repeat (first | exact .here | apply Sel.there)) (by repeat (first | exact Cells.nil | apply Cells.cons | rfl))) (by rfl) (by decide) ?_
      refine WL.eff (wanted_plain (by rfl)) (eff_call (by exact Try.call29) (by repeat (first | exact Evs.nil | apply Evs.cons | rfl)) (by repeat (first | exact SelL.nil | exact SelL.self | apply SelL.cons | exact Sel.here | apply Sel.there | apply SelL.skip)) (refEncode_spec (1 + aroundM x 300) (aroundM y 300) true ad26 b.length cap26 b hx2 hy2 (by omega))) (by rfl) (by decide) ?_
      rintro ⟨ad60, len60, cap60⟩ hl60
      rw [henc] at hl60 ⊢
      dsimp only at hl60 ⊢
      try dsimp only
      refine WL.yld (wanted_plain (by rfl)) (yld_move (by rfl)) (by rfl) (by decide) ?_
      refine WL.yld (wanted_plain (by rfl)) (yld_extract (by rfl) (by rfl)) (by rfl) (by decide) ?_
      refine WL.yld (wanted_plain (by rfl)) (yld_extract (by rfl) (by rfl)) (by rfl) (by decide) ?_
      refine WL.yld (wanted_plain (by rfl)) (yld_assign (by rfl)) (by rfl) (by decide) ?_
      refine WL.yld (wanted_plain (by rfl)) (yld_assign (by rfl)) (by rfl) (by decide) ?_
      refine WL.done ?_
      refine WK.seq ?_
      refine WK.seq ?_
      refine WK.region ?_
      refine WL.yld (wanted_plain (by rfl)) (yld_move (by rfl)) (by rfl) (by decide) ?_
      refine WL.yld (wanted_plain (by rfl)) (yld_len (by rfl) (by exact Try.runUnderlying31)) (by rfl) (by decide) ?_
      refine WL.yld (wanted_plain (by rfl)) (yld_eql (by rfl) (by rfl)) (by rfl) (by decide) ?_
      refine WL.done ?_
      refine WK.cond (by rfl) (fun hc65 => ?_) (fun hc65 => ?_)
      · skip
        have hc65 := of_decide_eq_true hc65
        omega
      · skip
        have hc65 := of_decide_eq_false hc65
        refine WK.skip ?_
        refine WK.seq ?_
        refine WK.region ?_
        refine WL.yld (wanted_plain (by rfl)) (yld_move (by rfl)) (by rfl) (by decide) ?_
        refine WL.yld (wanted_plain (by rfl)) (yld_move (by rfl)) (by rfl) (by decide) ?_
        refine WL.yld (wanted_plain (by rfl)) (yld_len (by rfl) (by exact Try.runUnderlying31)) (by rfl) (by decide) ?_
        refine WL.eff (wanted_plain (by rfl)) (eff_call (by exact Try.call27) (by repeat (first | exact Evs.nil | apply Evs.cons | rfl)) (by repeat (first | exact SelL.nil | exact SelL.self | apply SelL.cons | exact Sel.here | apply Sel.there | apply SelL.skip)) (few_spec true ad60 len60 cap60 W len60 (by omega))) (by rfl) (by decide) ?_
        rintro ⟨ad69, cap69⟩ -
        rw [Nat.min_self, List.take_of_length_le (by omega), hl60]
        try dsimp only
        refine WL.yld (wanted_plain (by rfl)) (yld_assign (by rfl)) (by rfl) (by decide) ?_
        refine WL.done ?_
        refine WK.seq ?_
        refine WK.region ?_
        refine WL.yld (wanted_plain (by rfl)) (yld_move (by rfl)) (by rfl) (by decide) ?_
        refine WL.yld (wanted_plain (by rfl)) (yld_move (by rfl)) (by rfl) (by decide) ?_
        refine WL.yld (wanted_plain (by rfl)) (yld_move (by rfl)) (by rfl) (by decide) ?_
        refine WL.yld (wanted_plain (by rfl)) (yld_len (by rfl) (by exact Try.runUnderlying31)) (by rfl) (by decide) ?_
        refine WL.eff (wanted_plain (by rfl)) (eff_call (by exact Try.call12) (by repeat (first | exact Evs.nil | apply Evs.cons | rfl)) (by repeat (first | exact SelL.nil | exact SelL.self | apply SelL.cons | exact Sel.here | apply Sel.there | apply SelL.skip)) (around_spec at_ (W.length : Int) hat (by omega))) (by rfl) (by decide) ?_
        rintro _ -
        have r3 := aroundM_range at_ (W.length : Int) (by omega)
        obtain ⟨k, hk⟩ : ∃ k : Nat, aroundM at_ (W.length : Int) = k := ⟨(aroundM at_ (W.length : Int)).toNat, by omega⟩
        rw [hk]
        try dsimp only
        refine WL.yld (wanted_plain (by rfl)) (yld_move (by rfl)) (by rfl) (by decide) ?_
        refine WL.yld (wanted_plain (by rfl)) (yld_indexAddrS (by rfl) (by rfl) (by exact Try.runUnderlying31) (by exact Try.sizeOf5) (by repeat (first | exact .here | apply Sel.there)) (k) (by first | rfl | omega) (by omega) (by omega) (by exact Nat.mul_one _)) (by rfl) (by decide) ?_
        refine WL.eff0 (wanted_plain (by rfl)) (eff_storeS (by rfl) (by rfl) (by exact Try.sizeOf5) (by rfl) (by rfl) (by rfl) (by simp) (by repeat (first | exact .here | apply Sel.there)) (SetAts.cons (SetAt.mk (by rw [List.length_map]; omega)) SetAts.nil)) (by rfl) ?_
        rintro _ -
        try dsimp only
        refine WL.done ?_
        refine WK.seq ?_
        rw [show (W.map bv).set k (.int .u8 (c.toNat : Int)) = (W.set k c).map bv from by rw [List.map_set]; rfl]
        refine WK.region ?_
        refine WL.yld (wanted_plain (by rfl)) (yld_move (by rfl)) (by rfl) (by decide) ?_
        refine WL.eff (wanted_plain (by rfl)) (eff_call (by exact Try.call27) (by repeat (first | exact Evs.nil | apply Evs.cons | rfl)) (by repeat (first | exact SelL.nil | exact SelL.self | apply SelL.cons | exact Sel.here | apply Sel.there | apply SelL.skip)) (fewR_spec ad3 len3 cap3 raw 40 (by omega) hc3)) (by rfl) (by decide) ?_
        rintro ⟨ad78, cap78⟩ -
        rw [← hfl, hfr]
        try dsimp only
        refine WL.yld (wanted_plain (by rfl)) (yld_assign (by rfl)) (by rfl) (by decide) ?_
        refine WL.done ?_
        refine WK.seq ?_
        refine WK.region ?_
        refine WL.yld (wanted_plain (by rfl)) (yld_move (by rfl)) (by rfl) (by decide) ?_
        refine WL.yld (wanted_plain (by rfl)) (yld_move (by rfl)) (by rfl) (by decide) ?_
        refine WL.yld (wanted_plain (by rfl)) (yld_move (by rfl)) (by rfl) (by decide) ?_
        refine WL.yld (wanted_plain (by rfl)) (yld_move (by rfl)) (by rfl) (by decide) ?_
        refine WL.yld (wanted_plain (by rfl)) (yld_move (by rfl)) (by rfl) (by decide) ?_
        refine WL.eff (wanted_plain (by rfl)) (eff_call (by exact Try.call31) (by repeat (first | exact Evs.nil | apply Evs.cons | rfl)) (by repeat (first | exact SelL.nil | exact SelL.self | apply SelL.cons | exact Sel.here | apply Sel.there | apply SelL.skip)) (refWhole_spec true ad78 fr.length cap78 fr (by omega))) (by rfl) (by decide) ?_
        rintro ⟨ad84, cap84⟩ -
        try dsimp only
        refine WL.eff (wanted_plain (by rfl)) (eff_mkSliceN (by exact Try.runUnderlying42) (by exact Try.sizeOf31) (by exact Try.zeroValue31) (by repeat (first | exact PrtsN.nil | apply PrtsN.cons | rfl)) (by decide) (by rfl) (by rfl) (by rfl) (by rfl)) (by rfl) (by decide) ?_
        rintro b85 -
        try dsimp only [List.cons_append, List.nil_append]
        try dsimp only
        refine WL.yld (wanted_plain (by rfl)) (yld_assign (by rfl)) (by rfl) (by decide) ?_
        refine WL.done ?_
        refine WK.sat (fun w s => Sat.allNil (Rl := byt 5 false) s) ?_
        refine WK.sat (fun w s => Sat.toAll1 (x := (wholeM fr)) (s.sel (As := [sl true 5 1 ad84 (wholeM fr).length cap84 ((wholeM fr).map bv), allR (byt 5 false) [] []]) (by repeat (first | exact SelL.nil | exact SelL.self | apply SelL.cons | exact Sel.here | apply Sel.there | apply SelL.skip)))) ?_
        refine WK.sat (fun w s => Sat.toAll1 (x := fr) (s.sel (As := [sl true 5 1 ad78 fr.length cap78 (fr.map bv), allR (byt 5 false) [.slice ad84 (wholeM fr).length cap84] [(wholeM fr)]]) (by repeat (first | exact SelL.nil | exact SelL.self | apply SelL.cons | exact Sel.here | apply Sel.there | apply SelL.skip)))) ?_
        refine WK.sat (fun w s => Sat.toAll1 (x := (W.set k c)) (s.sel (As := [sl true 5 1 ad69 W.length cap69 ((W.set k c).map bv), allR (byt 5 false) [.slice ad78 fr.length cap78, .slice ad84 (wholeM fr).length cap84] [fr, (wholeM fr)]]) (by repeat (first | exact SelL.nil | exact SelL.self | apply SelL.cons | exact Sel.here | apply Sel.there | apply SelL.skip)))) ?_
        refine WK.sat (fun w s => Sat.toAll1 (x := E) (s.sel (As := [sl true 5 1 ad30 len30 cap30 (E.map bv), allR (byt 5 false) [.slice ad69 W.length cap69, .slice ad78 fr.length cap78, .slice ad84 (wholeM fr).length cap84] [(W.set k c), fr, (wholeM fr)]]) (by repeat (first | exact SelL.nil | exact SelL.self | apply SelL.cons | exact Sel.here | apply Sel.there | apply SelL.skip)))) ?_
        refine WK.sat (fun w s => Sat.toAll1 (x := W) (s.sel (As := [sl true 5 1 ad60 W.length cap60 (W.map bv), allR (byt 5 false) [.slice ad30 len30 cap30, .slice ad69 W.length cap69, .slice ad78 fr.length cap78, .slice ad84 (wholeM fr).length cap84] [E, (W.set k c), fr, (wholeM fr)]]) (by repeat (first | exact SelL.nil | exact SelL.self | apply SelL.cons | exact Sel.here | apply Sel.there | apply SelL.skip)))) ?_
        obtain ⟨xs, hxs⟩ : ∃ xs : List (List UInt8), [W, E, (W.set k c), fr, (wholeM fr)] = xs := ⟨_, rfl⟩
        obtain ⟨vs, hvs⟩ : ∃ vs : List Value, [Value.slice ad60 W.length cap60, Value.slice ad30 len30 cap30, Value.slice ad69 W.length cap69, Value.slice ad78 fr.length cap78, Value.slice ad84 (wholeM fr).length cap84] = vs := ⟨_, rfl⟩
        rw [hxs, hvs]
        have hxl : xs.length = 5 := by rw [← hxs]; rfl
        have hxb : ∀ X ∈ xs, X.length ≤ 100000 := by rw [← hxs]; intro X hX; simp only [List.mem_cons, List.not_mem_nil, or_false] at hX; rcases hX with rfl | rfl | rfl | rfl | rfl <;> (try rw [List.length_set]) <;> omega
        refine WK.seq ?_
        refine WK.seq ?_
        refine WK.region ?_
        refine WL.yld (wanted_plain (by rfl)) (yld_assign (by rfl)) (by rfl) (by decide) ?_
        refine WL.done ?_
        refine WK.block ?_
        refine WK.loop (ι := Nat) (fun i => i ≤ 5) (fun i => [(18, .slice (some ⟨b85, 0, none⟩) 5 5), (19, .int .i64 (i : Int))]) (fun i => sl true 31 1 (some ⟨b85, 0, none⟩) 5 5 vs :: allR (byt 5 false) vs xs :: slr 1 ad len (bs.map bv) :: slr 1 ad3 len3 (raw.map bv) :: F) (fun i => 5 - i) (0) (Nat.zero_le _) (by repeat (first | exact KK.nil | refine KK.cons (by first | rfl | (simp; done)) ?_)) (by repeat (first | exact SelL.nil | exact SelL.self | apply SelL.cons | exact Sel.here | apply Sel.there | apply SelL.skip)) ?_
        rintro i hi N hN
        refine WK.seq ?_
        refine WK.seq ?_
        refine WK.region ?_
        refine WL.yld (wanted_plain (by rfl)) (yld_move (by rfl)) (by rfl) (by decide) ?_
        refine WL.yld (wanted_plain (by rfl)) (yld_lss (by rfl) (by rfl)) (by rfl) (by decide) ?_
        refine WL.done ?_
        refine WK.cond (by rfl) (fun hc87 => ?_) (fun hc87 => ?_)
        · skip
          have hc87 := of_decide_eq_true hc87
          refine WK.skip ?_
          refine WK.seq ?_
          refine WK.block ?_
          refine WK.seq ?_
          obtain ⟨X, hX⟩ : ∃ X, xs[i]? = some X := ⟨_, List.getElem?_eq_getElem (by omega)⟩
          have hXl := hxb X (List.mem_of_getElem? hX)
          refine WK.openS (fun w s => Sat.allByt (k := i) (bs := X) hX (s.sel1 (A := allR (byt 5 false) vs xs) (by repeat (first | exact .here | apply Sel.there)))) ?_
          rintro ⟨ad7, len7, cap7⟩ ⟨hv7, hl7⟩
          dsimp only at hv7 hl7
          subst hl7
          try dsimp only [List.cons_append, List.nil_append]
          refine WK.region ?_
          refine WL.yld (wanted_plain (by rfl)) (yld_move (by rfl)) (by rfl) (by decide) ?_
          refine WL.yld (wanted_plain (by rfl)) (yld_move (by rfl)) (by rfl) (by decide) ?_
          refine WL.yld (wanted_plain (by rfl)) (yld_indexAddrS (by rfl) (by rfl) (by exact Try.runUnderlying42) (by exact Try.sizeOf31) (by repeat (first | exact .here | apply Sel.there)) (i) (by first | rfl | omega) (by omega) (by omega) (by exact Nat.mul_one _)) (by rfl) (by decide) ?_
          refine WL.yld (wanted_plain (by rfl)) (yld_loadS (by rfl) (by exact Try.isAgg31) (by repeat (first | exact .here | apply Sel.there)) (by exact hv7)) (by rfl) (by decide) ?_
          refine WL.eff (wanted_plain (by rfl)) (eff_call (by exact Try.call32) (by repeat (first | exact Evs.nil | apply Evs.cons | rfl)) (by repeat (first | exact SelL.nil | exact SelL.self | apply SelL.cons | exact Sel.here | apply Sel.there | apply SelL.skip)) (decode_spec false ad7 X.length cap7 X (by omega))) (by rfl) (by decide) ?_
          rintro ⟨ad95, len95, cap95⟩ hl95
          dsimp only at hl95
          subst hl95
          try dsimp only
          refine WL.yld (wanted_plain (by rfl)) (yld_move (by rfl)) (by rfl) (by decide) ?_
          refine WL.yld (wanted_plain (by rfl)) (yld_extract (by rfl) (by rfl)) (by rfl) (by decide) ?_
          refine WL.yld (wanted_plain (by rfl)) (yld_extract (by rfl) (by rfl)) (by rfl) (by decide) ?_
          refine WL.eff (wanted_plain (by rfl)) (eff_alloc (by exact Try.zeroValue44) (by rfl)) (by rfl) (by decide) ?_
          rintro b20 -
          try dsimp only
          refine WL.eff0 (wanted_plain (by rfl)) (eff_store (by rfl) (by rfl) (by exact Try.sizeOf44) (by rfl) (by rfl) (by rfl) (by repeat (first | exact .here | apply Sel.there)) (by repeat (first | exact SetAts.nil | apply SetAts.cons | exact SetAt.here | apply SetAt.there))) (by rfl) ?_
          rintro _ -
          try dsimp only
          refine WL.yld (wanted_plain (by rfl)) (yld_assign (by rfl)) (by rfl) (by decide) ?_
          refine WL.done ?_
          refine WK.sat (fun w s => Sat.slFreeze (s.sel1 (A := sl true 5 1 ad95 (decM X).1.2.2.length cap95 ((decM X).1.2.2.map bv)) (by repeat (first | exact .here | apply Sel.there)))) ?_
          refine WK.seq ?_
          refine WK.region ?_
          refine WL.yld (wanted_plain (by rfl)) (yld_move (by rfl)) (by rfl) (by decide) ?_
          refine WL.yld (wanted_plain (by rfl)) (yld_move (by rfl)) (by rfl) (by decide) ?_
          refine WL.yld (wanted_plain (by rfl)) (yld_indexAddrS (by rfl) (by rfl) (by exact Try.runUnderlying42) (by exact Try.sizeOf31) (by repeat (first | exact .here | apply Sel.there)) (i) (by first | rfl | omega) (by omega) (by omega) (by exact Nat.mul_one _)) (by rfl) (by decide) ?_
          refine WL.yld (wanted_plain (by rfl)) (yld_loadS (by rfl) (by exact Try.isAgg31) (by repeat (first | exact .here | apply Sel.there)) (by exact hv7)) (by rfl) (by decide) ?_
          refine WL.eff (wanted_plain (by rfl)) (eff_call (by exact Try.call33) (by repeat (first | exact Evs.nil | apply Evs.cons | rfl)) (by repeat (first | exact SelL.nil | exact SelL.self | apply SelL.cons | exact Sel.here | apply Sel.there | apply SelL.skip)) (refDecode_spec ad7 X.length cap7 X (by omega))) (by rfl) (by decide) ?_
          rintro ⟨ad103, len103, cap103⟩ hl103
          dsimp only at hl103
          subst hl103
          try dsimp only
          refine WL.yld (wanted_plain (by rfl)) (yld_move (by rfl)) (by rfl) (by decide) ?_
          refine WL.yld (wanted_plain (by rfl)) (yld_extract (by rfl) (by rfl)) (by rfl) (by decide) ?_
          refine WL.yld (wanted_plain (by rfl)) (yld_extract (by rfl) (by rfl)) (by rfl) (by decide) ?_
          refine WL.eff (wanted_plain (by rfl)) (eff_alloc (by exact Try.zeroValue40) (by rfl)) (by rfl) (by decide) ?_
          rintro b22 -
          try dsimp only
          refine WL.eff0 (wanted_plain (by rfl)) (eff_store (by rfl) (by rfl) (by exact Try.sizeOf40) (by rfl) (by rfl) (by rfl) (by repeat (first | exact .here | apply Sel.there)) (by repeat (first | exact SetAts.nil | apply SetAts.cons | exact SetAt.here | apply SetAt.there))) (by rfl) ?_
          rintro _ -
          try dsimp only
          refine WL.yld (wanted_plain (by rfl)) (yld_assign (by rfl)) (by rfl) (by decide) ?_
          refine WL.done ?_
          refine WK.seq ?_
          refine WK.drawn (by kernel_rfl) [(0, 0), (1, 0), (2, 0), (3, 0), (4, 0), (6, 0), (5, 1), (7, 1), (8, 0), (9, 0)] [row true b20 44 [.int .i64 (decM X).1.1, .int .i64 (decM X).1.2.1, .slice ad95 (decM X).1.2.2.length cap95], row true b22 40 [.int .i64 (decM X).1.1, .int .i64 (decM X).1.2.1, .slice ad103 (decM X).1.2.2.length cap103]] (by kernel_rfl) (by kernel_rfl) (by kernel_rfl) ?_
          refine WO.yld (by rfl) (wanted_plain (by rfl)) (yld_move (by rfl)) (by rfl) (by decide) (by repeat (first | exact SelL.nil | exact SelL.self | apply SelL.cons | exact Sel.here | apply Sel.there | apply SelL.skip)) ?_
          refine WO.yld (by rfl) (wanted_plain (by rfl)) (yld_move (by rfl)) (by rfl) (by decide) (by repeat (first | exact SelL.nil | exact SelL.self | apply SelL.cons | exact Sel.here | apply Sel.there | apply SelL.skip)) ?_
          refine WO.yld (by rfl) (wanted_plain (by rfl)) (yld_neq (by rfl) (by rfl)) (by rfl) (by decide) (by repeat (first | exact SelL.nil | exact SelL.self | apply SelL.cons | exact Sel.here | apply Sel.there | apply SelL.skip)) ?_
          refine WO.yld (by rfl) (wanted_plain (by rfl)) (yld_move (by rfl)) (by rfl) (by decide) (by repeat (first | exact SelL.nil | exact SelL.self | apply SelL.cons | exact Sel.here | apply Sel.there | apply SelL.skip)) ?_
          refine WO.split (d := 109) (by rfl) (fun hc109 => ?_) (fun hc109 => ?_)
          · skip
            have hc109 := of_decide_eq_true hc109
            exact (hc109 rfl).elim
          · skip
            have hc109 := of_decide_eq_false hc109
            refine WO.yld (by rfl) (wanted_some (by rfl) (by rfl) (by rfl)) (yld_loadA (by rfl) (by exact Try.isAgg44) (by exact Try.sizeOf44) (by repeat (first | exact .here | apply Sel.there)) (by repeat (first | exact Cells.nil | apply Cells.cons | rfl))) (by rfl) (by decide) (by repeat (first | exact SelL.nil | exact SelL.self | apply SelL.cons | exact Sel.here | apply Sel.there | apply SelL.skip)) ?_
            refine WO.yld (by rfl) (wanted_some (by rfl) (by rfl) (by rfl)) (yld_loadA (by rfl) (by exact Try.isAgg40) (by exact Try.sizeOf40) (by repeat (first | exact .here | apply Sel.there)) (by repeat (first | exact Cells.nil | apply Cells.cons | rfl))) (by rfl) (by decide) (by repeat (first | exact SelL.nil | exact SelL.self | apply SelL.cons | exact Sel.here | apply Sel.there | apply SelL.skip)) ?_
            refine WO.eff (by rfl) (wanted_some (by rfl) (by rfl) (by rfl)) (eff_call (by exact Try.call30) (by repeat (first | exact Evs.nil | apply Evs.cons | rfl)) (by repeat (first | exact SelL.nil | exact SelL.self | apply SelL.cons | exact Sel.here | apply Sel.there | apply SelL.skip)) (plain_spec _ _ ad95 (decM X).1.2.2.length cap95)) (by rfl) (by decide) (by intro x; repeat (first | exact SelL.nil | exact SelL.self | apply SelL.cons | exact Sel.here | apply Sel.there | apply SelL.skip)) ?_
            rintro _ -
            try dsimp only
            refine WO.eff (by rfl) (wanted_some (by rfl) (by rfl) (by rfl)) (eff_call (by exact Try.call34) (by repeat (first | exact Evs.nil | apply Evs.cons | rfl)) (by repeat (first | exact SelL.nil | exact SelL.self | apply SelL.cons | exact Sel.here | apply Sel.there | apply SelL.skip)) (refSame_spec _ _ ad95 ad103 cap95 cap103 (decM X).1.2.2 (by have := decM_len X; omega))) (by rfl) (by decide) (by intro x; repeat (first | exact SelL.nil | exact SelL.self | apply SelL.cons | exact Sel.here | apply Sel.there | apply SelL.skip)) ?_
            rintro _ -
            try dsimp only
            refine WO.yld (by rfl) (wanted_some (by rfl) (by rfl) (by rfl)) (yld_not (by rfl)) (by rfl) (by decide) (by repeat (first | exact SelL.nil | exact SelL.self | apply SelL.cons | exact Sel.here | apply Sel.there | apply SelL.skip)) ?_
            refine WO.yld (by rfl) (wanted_plain (by rfl)) (yld_pick_false (by rfl) (by rfl)) (by rfl) (by decide) (by repeat (first | exact SelL.nil | exact SelL.self | apply SelL.cons | exact Sel.here | apply Sel.there | apply SelL.skip)) ?_
            refine WO.done ?_
            refine WK.cond (by rfl) (fun h => by cases h) (fun _ => ?_)
            refine WK.skip ?_
            refine WK.endBlock ?_
            refine WK.region ?_
            refine WL.yld (wanted_plain (by rfl)) (yld_move (by rfl)) (by rfl) (by decide) ?_
            refine WL.yld (wanted_plain (by rfl)) (yld_add (by rfl) (by rfl) (by first | exact w64 (by omega) (by omega) | rfl)) (by rfl) (by decide) ?_
            refine WL.yld (wanted_plain (by rfl)) (yld_assign (by rfl)) (by rfl) (by decide) ?_
            refine WL.done ?_
            exact WK.next hN (i + 1) (by omega) (by omega) (by repeat (first | exact KK.nil | refine KK.cons (by first | rfl | (simp; done)) ?_)) (by repeat (first | exact SelL.nil | exact SelL.self | apply SelL.cons | exact Sel.here | apply Sel.there | apply SelL.skip))
        · skip
          have hc87 := of_decide_eq_false hc87
          refine WK.exit ?_
          repeat (first | refine XQ.then_ ?_ | refine XQ.block (by rfl) ?_)
          refine XQ.here ?_
          refine WK.seq ?_
          refine WK.region ?_
          refine WL.eff (wanted_plain (by rfl)) (eff_call (by exact Try.call23) (by repeat (first | exact Evs.nil | apply Evs.cons | rfl)) (by repeat (first | exact SelL.nil | exact SelL.self | apply SelL.cons | exact Sel.here | apply Sel.there | apply SelL.skip)) lives_spec) (by rfl) (by decide) ?_
          rintro _ -
          try dsimp only
          refine WL.yld (wanted_plain (by rfl)) (yld_assign (by rfl)) (by rfl) (by decide) ?_
          refine WL.done ?_
          refine WK.ret ?_
          repeat (first | refine RQ.block ?_ | refine RQ.then_ ?_)
          refine RQ.body (results1 (by rfl) (by rfl)) (fun w s => ?_)
          exact ⟨(), trivial, rfl, s.toCs (by repeat (first | exact SelL.nil | exact SelL.self | apply SelL.cons | exact Sel.here | apply Sel.there | apply SelL.skip))⟩
    · intro JR6
      refine WK.drawnT (by kernel_rfl) (OT.q 0 (OT.q 1 (OT.q 4 (OT.q 5 (OT.q 7 (OT.q 8 (OT.alt 2 (OT.q 3 (OT.alt 6 (OT.q 9 (OT.e 10 (OT.e 11 OT.done))) (OT.alt 10 (OT.e 6 (OT.q 9 (OT.e 11 OT.done))) OT.stop))) (OT.alt 10 (OT.e 2 (OT.q 3 (OT.e 6 (OT.q 9 (OT.e 11 OT.done))))) OT.stop)))))))) [row true b4 44 [.int .i64 x, .int .i64 y, .slice ad26 b.length cap26]] (by kernel_rfl) (by decide) (by kernel_rfl) ?_
      refine WT.yld (by rfl) (wanted_plain (by rfl)) (yld_fieldAddr (by rfl) (by exact Try.runUnderlying44) (by rfl) (by exact Try.sizeOf3) (by rfl) (by rfl)) (by rfl) (by decide) (by repeat (first | exact SelL.nil | exact SelL.self | apply SelL.cons | exact Sel.here | apply Sel.there | apply SelL.skip)) ?_
      refine WT.yld (by rfl) (wanted_plain (by rfl)) (yld_load (by rfl) (by exact Try.isAgg3) (by repeat (first | exact .here | apply Sel.there)) (by rfl)) (by rfl) (by decide) (by repeat (first | exact SelL.nil | exact SelL.self | apply SelL.cons | exact Sel.here | apply Sel.there | apply SelL.skip)) ?_
      refine WT.yld (by rfl) (wanted_plain (by rfl)) (yld_fieldAddr (by rfl) (by exact Try.runUnderlying44) (by rfl) (by exact Try.sizeOf3) (by rfl) (by rfl)) (by rfl) (by decide) (by repeat (first | exact SelL.nil | exact SelL.self | apply SelL.cons | exact Sel.here | apply Sel.there | apply SelL.skip)) ?_
      refine WT.yld (by rfl) (wanted_plain (by rfl)) (yld_load (by rfl) (by exact Try.isAgg3) (by repeat (first | exact .here | apply Sel.there)) (by rfl)) (by rfl) (by decide) (by repeat (first | exact SelL.nil | exact SelL.self | apply SelL.cons | exact Sel.here | apply Sel.there | apply SelL.skip)) ?_
      refine WT.yld (by rfl) (wanted_plain (by rfl)) (yld_fieldAddr (by rfl) (by exact Try.runUnderlying44) (by rfl) (by exact Try.sizeOf31) (by rfl) (by rfl)) (by rfl) (by decide) (by repeat (first | exact SelL.nil | exact SelL.self | apply SelL.cons | exact Sel.here | apply Sel.there | apply SelL.skip)) ?_
      refine WT.yld (by rfl) (wanted_plain (by rfl)) (yld_load (by rfl) (by exact Try.isAgg31) (by repeat (first | exact .here | apply Sel.there)) (by rfl)) (by rfl) (by decide) (by repeat (first | exact SelL.nil | exact SelL.self | apply SelL.cons | exact Sel.here | apply Sel.there | apply SelL.skip)) ?_
      refine WT.alt ?_ ?_
      · skip
        refine WT.eff (by rfl) (wanted_plain (by rfl)) (eff_call (by exact Try.call12) (by repeat (first | exact Evs.nil | apply Evs.cons | rfl)) (by repeat (first | exact SelL.nil | exact SelL.self | apply SelL.cons | exact Sel.here | apply Sel.there | apply SelL.skip)) (around_spec x 300 hx (by omega))) (by rfl) (by decide) (by intro x; repeat (first | exact SelL.nil | exact SelL.self | apply SelL.cons | exact Sel.here | apply Sel.there | apply SelL.skip)) ?_
        rintro _ -
        try dsimp only
        refine WT.yld (by rfl) (wanted_plain (by rfl)) (yld_add (by rfl) (by rfl) (by first | exact w64 (by omega) (by omega) | rfl)) (by rfl) (by decide) (by repeat (first | exact SelL.nil | exact SelL.self | apply SelL.cons | exact Sel.here | apply Sel.there | apply SelL.skip)) ?_
        refine WT.alt ?_ ?_
        · skip
          refine WT.eff (by rfl) (wanted_plain (by rfl)) (eff_call (by exact Try.call12) (by repeat (first | exact Evs.nil | apply Evs.cons | rfl)) (by repeat (first | exact SelL.nil | exact SelL.self | apply SelL.cons | exact Sel.here | apply Sel.there | apply SelL.skip)) (around_spec y 300 hy (by omega))) (by rfl) (by decide) (by intro x; repeat (first | exact SelL.nil | exact SelL.self | apply SelL.cons | exact Sel.here | apply Sel.there | apply SelL.skip)) ?_
          rintro _ -
          try dsimp only
          refine WT.yld (by rfl) (wanted_plain (by rfl)) (yld_build (by repeat (first | exact Prts.nil | apply Prts.cons | rfl)) (by exact Try.zeroValue40) (by exact Try.runUnderlying40) (by exact fun w => places40 w Try.underlying40) (by first | decide | simp) (by repeat (first | exact Fill.nil | apply Fill.cons | exact SetAts.nil | apply SetAts.cons | exact SetAt.here | apply SetAt.there | rfl))) (by rfl) (by decide) (by repeat (first | exact SelL.nil | exact SelL.self | apply SelL.cons | exact Sel.here | apply Sel.there | apply SelL.skip)) ?_
          refine WT.eff (by rfl) (wanted_plain (by rfl)) (eff_alloc (by exact Try.zeroValue40) (by rfl)) (by rfl) (by decide) (by intro x; repeat (first | exact SelL.nil | exact SelL.self | apply SelL.cons | exact Sel.here | apply Sel.there | apply SelL.skip)) ?_
          rintro b13 -
          try dsimp only
          refine WT.eff0 (by rfl) (wanted_plain (by rfl)) (eff_store (by rfl) (by rfl) (by exact Try.sizeOf40) (by rfl) (by rfl) (by rfl) (by repeat (first | exact .here | apply Sel.there)) (by repeat (first | exact SetAts.nil | apply SetAts.cons | exact SetAt.here | apply SetAt.there))) (by rfl) (by intro x; repeat (first | exact SelL.nil | exact SelL.self | apply SelL.cons | exact Sel.here | apply Sel.there | apply SelL.skip)) ?_
          rintro _ -
          try dsimp only
          refine WT.done ?_
          exact WK.goto JR6 b13 trivial (by repeat (first | exact KK.nil | refine KK.cons (by first | rfl | (simp; done)) ?_)) (by repeat (first | exact SelL.nil | exact SelL.self | apply SelL.cons | exact Sel.here | apply Sel.there | apply SelL.skip))
        refine WT.alt ?_ ?_
        · skip
          refine WT.eff (by rfl) (wanted_plain (by rfl)) (eff_alloc (by exact Try.zeroValue40) (by rfl)) (by rfl) (by decide) (by intro x; repeat (first | exact SelL.nil | exact SelL.self | apply SelL.cons | exact Sel.here | apply Sel.there | apply SelL.skip)) ?_
          rintro b13 -
          try dsimp only
          refine WT.eff (by rfl) (wanted_plain (by rfl)) (eff_call (by exact Try.call12) (by repeat (first | exact Evs.nil | apply Evs.cons | rfl)) (by repeat (first | exact SelL.nil | exact SelL.self | apply SelL.cons | exact Sel.here | apply Sel.there | apply SelL.skip)) (around_spec y 300 hy (by omega))) (by rfl) (by decide) (by intro x; repeat (first | exact SelL.nil | exact SelL.self | apply SelL.cons | exact Sel.here | apply Sel.there | apply SelL.skip)) ?_
          rintro _ -
          try dsimp only
          refine WT.yld (by rfl) (wanted_plain (by rfl)) (yld_build (by repeat (first | exact Prts.nil | apply Prts.cons | rfl)) (by exact Try.zeroValue40) (by exact Try.runUnderlying40) (by exact fun w => places40 w Try.underlying40) (by first | decide | simp) (by repeat (first | exact Fill.nil | apply Fill.cons | exact SetAts.nil | apply SetAts.cons | exact SetAt.here | apply SetAt.there | rfl))) (by rfl) (by decide) (by repeat (first | exact SelL.nil | exact SelL.self | apply SelL.cons | exact Sel.here | apply Sel.there | apply SelL.skip)) ?_
          refine WT.eff0 (by rfl) (wanted_plain (by rfl)) (eff_store (by rfl) (by rfl) (by exact Try.sizeOf40) (by rfl) (by rfl) (by rfl) (by repeat (first | exact .here | apply Sel.there)) (by repeat (first | exact SetAts.nil | apply SetAts.cons | exact SetAt.here | apply SetAt.there))) (by rfl) (by intro x; repeat (first | exact SelL.nil | exact SelL.self | apply SelL.cons | exact Sel.here | apply Sel.there | apply SelL.skip)) ?_
          rintro _ -
          try dsimp only
          refine WT.done ?_
          exact WK.goto JR6 b13 trivial (by repeat (first | exact KK.nil | refine KK.cons (by first | rfl | (simp; done)) ?_)) (by repeat (first | exact SelL.nil | exact SelL.self | apply SelL.cons | exact Sel.here | apply Sel.there | apply SelL.skip))
        exact WT.stop
      refine WT.alt ?_ ?_
      · skip
        refine WT.eff (by rfl) (wanted_plain (by rfl)) (eff_alloc (by exact Try.zeroValue40) (by rfl)) (by rfl) (by decide) (by intro x; repeat (first | exact SelL.nil | exact SelL.self | apply SelL.cons | exact Sel.here | apply Sel.there | apply SelL.skip)) ?_
        rintro b13 -
        try dsimp only
        refine WT.eff (by rfl) (wanted_plain (by rfl)) (eff_call (by exact Try.call12) (by repeat (first | exact Evs.nil | apply Evs.cons | rfl)) (by repeat (first | exact SelL.nil | exact SelL.self | apply SelL.cons | exact Sel.here | apply Sel.there | apply SelL.skip)) (around_spec x 300 hx (by omega))) (by rfl) (by decide) (by intro x; repeat (first | exact SelL.nil | exact SelL.self | apply SelL.cons | exact Sel.here | apply Sel.there | apply SelL.skip)) ?_
        rintro _ -
        try dsimp only
        refine WT.yld (by rfl) (wanted_plain (by rfl)) (yld_add (by rfl) (by rfl) (by first | exact w64 (by omega) (by omega) | rfl)) (by rfl) (by decide) (by repeat (first | exact SelL.nil | exact SelL.self | apply SelL.cons | exact Sel.here | apply Sel.there | apply SelL.skip)) ?_
        refine WT.eff (by rfl) (wanted_plain (by rfl)) (eff_call (by exact Try.call12) (by repeat (first | exact Evs.nil | apply Evs.cons | rfl)) (by repeat (first | exact SelL.nil | exact SelL.self | apply SelL.cons | exact Sel.here | apply Sel.there | apply SelL.skip)) (around_spec y 300 hy (by omega))) (by rfl) (by decide) (by intro x; repeat (first | exact SelL.nil | exact SelL.self | apply SelL.cons | exact Sel.here | apply Sel.there | apply SelL.skip)) ?_
        rintro _ -
        try dsimp only
        refine WT.yld (by rfl) (wanted_plain (by rfl)) (yld_build (by repeat (first | exact Prts.nil | apply Prts.cons | rfl)) (by exact Try.zeroValue40) (by exact Try.runUnderlying40) (by exact fun w => places40 w Try.underlying40) (by first | decide | simp) (by repeat (first | exact Fill.nil | apply Fill.cons | exact SetAts.nil | apply SetAts.cons | exact SetAt.here | apply SetAt.there | rfl))) (by rfl) (by decide) (by repeat (first | exact SelL.nil | exact SelL.self | apply SelL.cons | exact Sel.here | apply Sel.there | apply SelL.skip)) ?_
        refine WT.eff0 (by rfl) (wanted_plain (by rfl)) (eff_store (by rfl) (by rfl) (by exact Try.sizeOf40) (by rfl) (by rfl) (by rfl) (by repeat (first | exact .here | apply Sel.there)) (by repeat (first | exact SetAts.nil | apply SetAts.cons | exact SetAt.here | apply SetAt.there))) (by rfl) (by intro x; repeat (first | exact SelL.nil | exact SelL.self | apply SelL.cons | exact Sel.here | apply Sel.there | apply SelL.skip)) ?_
        rintro _ -
        try dsimp only
        refine WT.done ?_
        exact WK.goto JR6 b13 trivial (by repeat (first | exact KK.nil | refine KK.cons (by first | rfl | (simp; done)) ?_)) (by repeat (first | exact SelL.nil | exact SelL.self | apply SelL.cons | exact Sel.here | apply Sel.there | apply SelL.skip))
      exact WT.stop
end Go.Proofs.Ytnknclbiamhnaaa
