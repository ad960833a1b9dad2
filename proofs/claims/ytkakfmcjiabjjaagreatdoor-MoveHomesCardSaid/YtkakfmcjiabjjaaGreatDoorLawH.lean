import Derived.Test.YtkakfmcjiabjjaaGreatDoorMoveR
namespace Go.Proofs.YtkakfmcjiabjjaaGreatDoor
set_option linter.unusedVariables false
set_option linter.unusedSimpArgs false
set_option linter.unusedSectionVars false
set_option linter.unnecessarySimpa false
open Go Go.Sep
attribute [local irreducible] row sl mapO held exL allR byt mapI slr mapK rangeK vec pack
def homR (v : Value) (l : List HomeM) : HProp := exL (ι := Option Addr × Nat) (fun x => v = .slice x.1 l.length x.2) (fun x => [sl false 83 2 x.1 l.length x.2 (homesC l)])
theorem dup_homR (v : Value) (l : List HomeM) : Dup (homR v l) := dup_exL fun x A hA => by
  obtain rfl : A = _ := by simpa using hA
  exact dup_sl _ _ _ _ _ _
theorem Sat.homOpen {g w : World} {Ps : List HProp} {v : Value} {l : List HomeM} (s : Sat g w (homR v l :: Ps)) : ∃ x : Option Addr × Nat, v = .slice x.1 l.length x.2 ∧ Sat g w (sl false 83 2 x.1 l.length x.2 (homesC l) :: Ps) := s.exOpen
theorem Sat.homShut {g w : World} {Ps : List HProp} {ad : Option Addr} {cap : Nat} {l : List HomeM} (s : Sat g w (sl false 83 2 ad l.length cap (homesC l) :: Ps)) : Sat g w (homR (.slice ad l.length cap) l :: Ps) := Sat.exShut (ι := Option Addr × Nat) (ad, cap) rfl s
set_option maxRecDepth 20000 in
set_option maxHeartbeats 8000000 in
theorem homesLaw_spec (ad : Option Addr) (len cap : Nat) (l : List Int) (hl : ∀ n ∈ l, -9223372036854775808 ≤ n ∧ n ≤ 9223372036854775807) (shards at_ n account : Int) (h_shards : -9223372036854775808 ≤ shards ∧ shards ≤ 9223372036854775807) (h_at_ : -9223372036854775808 ≤ at_ ∧ at_ ≤ 9223372036854775807) (h_n : -9223372036854775808 ≤ n ∧ n ≤ 9223372036854775807) (h_account : -9223372036854775808 ≤ account ∧ account ≤ 9223372036854775807) :
  Triple Tryz.prog 3 #[.slice ad len cap, .int .i64 shards, .int .i64 at_, .int .i64 n, .int .i64 account] [slr 1 ad len (l.map (Value.int .i64))] (Unit) (fun _ => True) (fun _ => .bool true) (fun _ => [slr 1 ad len (l.map (Value.int .i64))]) := by
 refine Triple.of_body (args := [.slice ad len cap, .int .i64 shards, .int .i64 at_, .int .i64 n, .int .i64 account]) Tryz.func3 rfl Tryz.ntmps3 (by simp) (fun g F => ?_)
 dsimp only [numb, List.cons_append, List.nil_append]
 refine WK.seq ?_
 refine WK.region ?_
 refine Ly y_assign ?_
 refine WL.done ?_
 refine WK.seq ?_
 refine WK.region ?_
 refine Ly y_move ?_
 refine Le (e_call (by exact Tryz.call10) (t := around_spec shards 12 h_shards (by omega))) ?_
 rintro _ -
 have h21 := aroundM_range shards 12 (by omega)
 try dsimp only
 refine Ly y_add ?_
 refine Ly y_move ?_
 refine Le (e_call (by exact Tryz.call9) (t := refHomesR_spec (1 + aroundM shards 12) ad len cap l 0 hl (by omega) (by decide))) ?_
 rintro ⟨gad, gcap⟩ -
 dsimp only
 obtain ⟨G, hG⟩ : ∃ G, refHomesM (1 + aroundM shards 12) l 0 = G := ⟨_, rfl⟩
 have hGl := refHomes_len (1 + aroundM shards 12) l 0
 rw [hG] at hGl ⊢
 try dsimp only
 refine Ly y_assign ?_
 refine WL.done ?_
 refine WK.seq ?_
 refine WK.region ?_
 refine Ly y_move ?_
 refine Ly y_move ?_
 refine Ly y_move ?_
 refine Ly y_move ?_
 refine Le (e_call (by exact Tryz.call11) (t := spoilt_spec true gad G.length gcap G (by omega) at_ n h_at_)) ?_
 rintro ⟨s1ad, s1cap⟩ -
 dsimp only
 obtain ⟨S1, hS1⟩ : ∃ S1, spoiltM G at_ n = S1 := ⟨_, rfl⟩
 have hS1l := spoiltM_len G at_ n
 rw [hS1] at hS1l ⊢
 try dsimp only
 refine Ly y_move ?_
 refine Ly y_move ?_
 refine Ly y_move ?_
 refine Le (e_call (by exact Tryz.call10) (t := around_spec n 14 h_n (by omega))) ?_
 rintro _ -
 have h33 := aroundM_range n 14 (by omega)
 try dsimp only
 refine Ly y_sub ?_
 refine Le (e_call (by exact Tryz.call11) (t := spoilt_spec true gad G.length gcap G (by omega) at_ (aroundM n 14 - 1) h_at_)) ?_
 rintro ⟨s2ad, s2cap⟩ -
 dsimp only
 obtain ⟨S2, hS2⟩ : ∃ S2, spoiltM G at_ (aroundM n 14 - 1) = S2 := ⟨_, rfl⟩
 have hS2l := spoiltM_len G at_ (aroundM n 14 - 1)
 rw [hS2] at hS2l ⊢
 try dsimp only
 refine Le (e_mkSliceN (by exact Tryz.runUnderlying27) (by exact Tryz.sizeOf23) (by exact Tryz.zeroValue23) (hb := by decide) (hk0 := by rfl) (hl0 := by rfl) (h1 := by rfl)) ?_
 rintro b36 -
 try dsimp only [List.cons_append, List.nil_append]
 try dsimp only
 refine Ly y_assign ?_
 refine WL.done ?_
 refine WK.sat (fun w s => Sat.allCons (Sat.homShut (l := []) (Sat.nilSl (Sat.allNil (Rl := homR) s) false 83 2))) ?_
 refine WK.sat (fun w s => Sat.allCons (Sat.homShut (Sat.slFreeze (s.sel (As := [sl true 83 2 s2ad S2.length s2cap (homesC S2), allR homR [.slice none 0 0] [[]]]) (by repeat (first | exact SelL.nil | exact SelL.self | apply SelL.cons | exact Sel.here | apply Sel.there | apply SelL.skip)))))) ?_
 refine WK.sat (fun w s => Sat.allCons (Sat.homShut (Sat.slFreeze (s.sel (As := [sl true 83 2 s1ad S1.length s1cap (homesC S1), allR homR [.slice s2ad S2.length s2cap, .slice none 0 0] [S2, []]]) (by repeat (first | exact SelL.nil | exact SelL.self | apply SelL.cons | exact Sel.here | apply Sel.there | apply SelL.skip)))))) ?_
 refine WK.sat (fun w s => Sat.allCons (Sat.homShut (Sat.slFreeze (s.sel (As := [sl true 83 2 gad G.length gcap (homesC G), allR homR [.slice s1ad S1.length s1cap, .slice s2ad S2.length s2cap, .slice none 0 0] [S1, S2, []]]) (by repeat (first | exact SelL.nil | exact SelL.self | apply SelL.cons | exact Sel.here | apply Sel.there | apply SelL.skip)))))) ?_
 obtain ⟨Vs, hVs⟩ : ∃ Vs : List Value, [.slice gad G.length gcap, .slice s1ad S1.length s1cap, .slice s2ad S2.length s2cap, .slice none 0 0] = Vs := ⟨_, rfl⟩
 obtain ⟨Ls, hLs⟩ : ∃ Ls : List (List HomeM), [G, S1, S2, []] = Ls := ⟨_, rfl⟩
 have hget : ∀ i : Nat, i < 4 → ∃ v li, Vs[i]? = some v ∧ Ls[i]? = some li ∧ li.length ≤ 7 := fun i hi => by
   subst hVs hLs
   obtain rfl | rfl | rfl | rfl : i = 0 ∨ i = 1 ∨ i = 2 ∨ i = 3 := by omega
   · exact ⟨_, _, rfl, rfl, hGl⟩
   · exact ⟨_, _, rfl, rfl, by omega⟩
   · exact ⟨_, _, rfl, rfl, by omega⟩
   · exact ⟨_, _, rfl, rfl, by simp⟩
 rw [hVs, hLs]
 refine WK.seq ?_
 refine WK.seq ?_
 refine WK.region ?_
 refine Ly y_assign ?_
 refine WL.done ?_
 refine WK.block ?_
 refine Kloop (ι := Nat) (fun i => i ≤ 4) (fun i => [(1, .int .i64 shards), (4, .int .i64 account), (12, .slice (some ⟨b36, 0, none⟩) 4 4), (13, .int .i64 (i : Int))]) (fun _ => sl true 23 1 (some ⟨b36, 0, none⟩) 4 4 Vs :: allR homR Vs Ls :: slr 1 ad len (l.map (Value.int .i64)) :: F) (fun i => 4 - i) (0) (Nat.zero_le _) (round := ?_)
 rintro i hi N hN
 refine WK.seq ?_
 refine WK.seq ?_
 refine WK.region ?_
 refine Ly y_move ?_
 refine Ly y_lss ?_
 refine WL.done ?_
 refine Kcond (ht := fun hc38 => ?_) (hf := fun hc38 => ?_)
 ·
  have hc38 := of_decide_eq_true hc38
  obtain ⟨v, li, hv, hli, hll⟩ := hget i (by omega)
  refine WK.openS (fun w s => Sat.homOpen (Sat.allGet dup_homR hv hli (s.sel1 (A := allR homR Vs Ls) (by repeat (first | exact .here | apply Sel.there))))) ?_
  rintro ⟨had, hcap⟩ hveq
  dsimp only at hveq ⊢
  subst hveq
  refine WK.skip ?_
  refine WK.seq ?_
  refine WK.block ?_
  refine WK.seq ?_
  refine WK.region ?_
  refine Ly y_move ?_
  refine Ly y_move ?_
  refine Le (e_call (by exact Tryz.call10) (t := around_spec shards 14 h_shards (by omega))) ?_
  rintro _ -
  try dsimp only
  refine Le (e_mkSliceN (by exact Tryz.runUnderlying22) (by exact Tryz.sizeOf3) (by exact Tryz.zeroValue3) (hb := by decide) (hk0 := by rfl) (hl0 := by rfl) (h1 := by rfl)) ?_
  rintro b44 -
  try dsimp only [List.cons_append, List.nil_append]
  try dsimp only
  refine Ly y_assign ?_
  refine WL.done ?_
  refine WK.seq ?_
  refine WK.seq ?_
  refine WK.region ?_
  refine Ly y_assign ?_
  refine WL.done ?_
  refine WK.block ?_
  refine Kloop (ι := Nat) (fun k => k ≤ 3) (fun k => [(1, .int .i64 shards), (4, .int .i64 account), (12, .slice (some ⟨b36, 0, none⟩) 4 4), (13, .int .i64 (i : Int)), (14, .slice (some ⟨b44, 0, none⟩) 3 3), (15, .int .i64 (k : Int))]) (fun _ => sl true 3 1 (some ⟨b44, 0, none⟩) 3 3 ([shards, aroundM shards 14, 12].map (Value.int .i64)) :: sl false 83 2 had li.length hcap (homesC li) :: sl true 23 1 (some ⟨b36, 0, none⟩) 4 4 Vs :: allR homR Vs Ls :: slr 1 ad len (l.map (Value.int .i64)) :: F) (fun k => 3 - k) (0) (Nat.zero_le _) (round := ?_)
  rintro k hk N2 hN2
  refine WK.seq ?_
  refine WK.seq ?_
  refine WK.region ?_
  refine Ly y_move ?_
  refine Ly y_lss ?_
  refine WL.done ?_
  refine Kcond (ht := fun hc46 => ?_) (hf := fun hc46 => ?_)
  ·
   have hc46 := of_decide_eq_true hc46
   obtain ⟨N1, hN1⟩ : ∃ x, [shards, aroundM shards 14, 12][k]? = some x := ⟨_, List.getElem?_eq_getElem (by simp; omega)⟩
   refine WK.skip ?_
   refine WK.seq ?_
   refine WK.block ?_
   refine WK.seq ?_
   refine Kdr (l := [(0, 0), (1, 0), (2, 0), (3, 0), (4, 0), (5, 0), (6, 0), (7, 0), (11, 0), (12, 0), (13, 0), (14, 0), (15, 0), (16, 0), (17, 0), (18, 0), (8, 1), (9, 1), (10, 0), (19, 1), (20, 0)]) (Cs := [sl true 3 1 (some ⟨b44, 0, none⟩) 3 3 ([shards, aroundM shards 14, 12].map (Value.int .i64)), sl true 23 1 (some ⟨b36, 0, none⟩) 4 4 Vs]) (h := ?_)
   refine Oy (y := y_move) (h := ?_)
   refine Oy (y := y_move) (h := ?_)
   refine Oy (y := y_indexAddrS (hu := by exact Tryz.runUnderlying22) (hz := by exact Tryz.sizeOf3) (j := k) (hi := by first | rfl | omega) (hj' := by omega) (hj := by omega) (hr := by exact Nat.mul_one _)) (h := ?_)
   refine Oy (y := (y_loadS (ha := by exact Tryz.isAgg3) (hv := (by rw [List.getElem?_map, hN1]; rfl)))) (h := ?_)
   refine Oy (y := y_move) (h := ?_)
   refine Oy (y := y_move) (h := ?_)
   refine Oy (y := y_indexAddrS (hu := by exact Tryz.runUnderlying27) (hz := by exact Tryz.sizeOf23) (j := i) (hi := by first | rfl | omega) (hj' := by omega) (hj := by omega) (hr := by exact Nat.mul_one _)) (h := ?_)
   refine Oy (y := y_loadS (ha := by exact Tryz.isAgg23) (hv := by exact hv)) (h := ?_)
   refine Oy (y := y_move) (h := ?_)
   refine Oy (y := y_move) (h := ?_)
   refine Oy (y := y_indexAddrS (hu := by exact Tryz.runUnderlying22) (hz := by exact Tryz.sizeOf3) (j := k) (hi := by first | rfl | omega) (hj' := by omega) (hj := by omega) (hr := by exact Nat.mul_one _)) (h := ?_)
   refine Oy (y := (y_loadS (ha := by exact Tryz.isAgg3) (hv := (by rw [List.getElem?_map, hN1]; rfl)))) (h := ?_)
   refine Oy (y := y_move) (h := ?_)
   refine Oy (y := y_move) (h := ?_)
   refine Oy (y := y_indexAddrS (hu := by exact Tryz.runUnderlying27) (hz := by exact Tryz.sizeOf23) (j := i) (hi := by first | rfl | omega) (hj' := by omega) (hj := by omega) (hr := by exact Nat.mul_one _)) (h := ?_)
   refine Oy (y := y_loadS (ha := by exact Tryz.isAgg23) (hv := by exact hv)) (h := ?_)
   refine Oe (e := e_call (by exact Tryz.call13) (t := homes_spec false had li.length hcap li (by omega))) (h := ?_)
   rintro ⟨mad, mcap⟩ -
   try dsimp only
   refine Oe (e := e_call (by exact Tryz.call12) (t := valid_spec N1 true mad li.length mcap li (by omega))) (h := ?_)
   rintro _ -
   try dsimp only
   refine Oy (y := y_eql) (h := ?_)
   refine Oe (e := e_call (by exact Tryz.call14) (t := refValid_spec N1 false had li.length hcap li (by omega))) (h := ?_)
   rintro _ -
   try dsimp only
   refine Oy (y := y_boolNeq (hu := by exact Tryz.runUnderlying4)) (h := ?_)
   refine WO.done ?_
   refine Kcond (ht := fun hc69 => ?_) (hf := fun hc69 => ?_)
   ·
    exfalso
    by_cases hv2 : VH N1 li <;> simp [hv2] at hc69
   ·
    refine WK.skip ?_
    refine WK.endBlock ?_
    refine WK.region ?_
    refine Ly y_move ?_
    refine Ly y_add ?_
    refine Ly y_assign ?_
    refine WL.done ?_
    exact Knext hN2 (k + 1) (by omega) (by omega)
  ·
   have hc46 := of_decide_eq_false hc46
   refine WK.exit ?_
   repeat (first | refine XQ.then_ ?_ | refine XQ.block (by rfl) ?_)
   refine XQ.here ?_
   refine WK.seq ?_
   refine WK.region ?_
   refine Ly y_move ?_
   refine Ly y_move ?_
   refine Le (e_call (by exact Tryz.call10) (t := around_spec account 30 h_account (by omega))) ?_
   rintro _ -
   have h72 := aroundM_range account 30 (by omega)
   try dsimp only
   refine Ly y_add ?_
   refine Le (e_mkSliceN (by exact Tryz.runUnderlying22) (by exact Tryz.sizeOf3) (by exact Tryz.zeroValue3) (hb := by decide) (hk0 := by rfl) (hl0 := by rfl) (h1 := by rfl)) ?_
   rintro b74 -
   try dsimp only [List.cons_append, List.nil_append]
   try dsimp only
   refine Ly y_assign ?_
   refine WL.done ?_
   refine WK.seq ?_
   refine WK.region ?_
   refine Ly y_assign ?_
   refine WL.done ?_
   refine WK.block ?_
   refine Kloop (ι := Nat) (fun k => k ≤ 4) (fun k => [(1, .int .i64 shards), (4, .int .i64 account), (12, .slice (some ⟨b36, 0, none⟩) 4 4), (13, .int .i64 (i : Int)), (16, .slice (some ⟨b74, 0, none⟩) 4 4), (17, .int .i64 (k : Int))]) (fun _ => sl true 3 1 (some ⟨b74, 0, none⟩) 4 4 ([account, 1 + aroundM account 30, 1, 1073741824].map (Value.int .i64)) :: sl false 83 2 had li.length hcap (homesC li) :: sl true 23 1 (some ⟨b36, 0, none⟩) 4 4 Vs :: allR homR Vs Ls :: slr 1 ad len (l.map (Value.int .i64)) :: F) (fun k => 4 - k) (0) (Nat.zero_le _) (round := ?_)
   rintro k hk N3 hN3
   refine WK.seq ?_
   refine WK.seq ?_
   refine WK.region ?_
   refine Ly y_move ?_
   refine Ly y_lss ?_
   refine WL.done ?_
   refine Kcond (ht := fun hc76 => ?_) (hf := fun hc76 => ?_)
   ·
    have hc76 := of_decide_eq_true hc76
    obtain ⟨ac, hac⟩ : ∃ x, [account, 1 + aroundM account 30, 1, 1073741824][k]? = some x := ⟨_, List.getElem?_eq_getElem (by simp; omega)⟩
    refine WK.skip ?_
    refine WK.seq ?_
    refine WK.block ?_
    refine WK.seq ?_
    by_cases hva : VH 12 li ∧ 1 ≤ ac ∧ ac ≤ 1073741824
    ·
     refine Kdr (l := [(0, 0), (1, 0), (2, 0), (3, 0), (5, 0), (6, 0), (7, 0), (8, 0), (4, 1), (9, 1), (10, 0), (11, 0), (12, 0), (13, 0), (14, 0)]) (Cs := [sl true 23 1 (some ⟨b36, 0, none⟩) 4 4 Vs, sl true 3 1 (some ⟨b74, 0, none⟩) 4 4 ([account, 1 + aroundM account 30, 1, 1073741824].map (Value.int .i64))]) (h := ?_)
     refine Oy (y := y_move) (h := ?_)
     refine Oy (y := y_move) (h := ?_)
     refine Oy (y := y_indexAddrS (hu := by exact Tryz.runUnderlying27) (hz := by exact Tryz.sizeOf23) (j := i) (hi := by first | rfl | omega) (hj' := by omega) (hj := by omega) (hr := by exact Nat.mul_one _)) (h := ?_)
     refine Oy (y := y_loadS (ha := by exact Tryz.isAgg23) (hv := by exact hv)) (h := ?_)
     refine Oy (y := y_move) (h := ?_)
     refine Oy (y := y_move) (h := ?_)
     refine Oy (y := y_indexAddrS (hu := by exact Tryz.runUnderlying22) (hz := by exact Tryz.sizeOf3) (j := k) (hi := by first | rfl | omega) (hj' := by omega) (hj := by omega) (hr := by exact Nat.mul_one _)) (h := ?_)
     refine Oy (y := (y_loadS (ha := by exact Tryz.isAgg3) (hv := (by rw [List.getElem?_map, hac]; rfl)))) (h := ?_)
     refine Oe (e := e_call (by exact Tryz.call13) (t := homes_spec false had li.length hcap li (by omega))) (h := ?_)
     rintro ⟨mad, mcap⟩ -
     try dsimp only
     refine Oe (e := e_call (by exact Tryz.call15) (t := find_spec true mad li.length mcap li (by omega) ac)) (h := ?_)
     rintro _ -
     rw [if_pos hva]
     try dsimp only
     refine Oy (y := y_move) (h := ?_)
     refine Oy (y := y_extract) (h := ?_)
     refine Oy (y := y_extract) (h := ?_)
     refine Oy (y := y_assign) (h := ?_)
     refine Oy (y := y_assign) (h := ?_)
     refine WO.done ?_
     refine WK.seq ?_
     refine WK.seq ?_
     refine WK.region ?_
     refine Ly y_move ?_
     refine Ly y_move ?_
     refine Ly (y_indexAddrS (hu := by exact Tryz.runUnderlying27) (hz := by exact Tryz.sizeOf23) (j := i) (hi := by first | rfl | omega) (hj' := by omega) (hj := by omega) (hr := by exact Nat.mul_one _)) ?_
     refine Ly (y_loadS (ha := by exact Tryz.isAgg23) (hv := by exact hv)) ?_
     refine Le (e_call (by exact Tryz.call14) (t := refValid_spec 12 false had li.length hcap li (by omega))) ?_
     rintro _ -
     try dsimp only
     refine Ly y_not ?_
     refine Ly y_move ?_
     refine WL.split (d := 98) (by rfl) (fun hc98 => ?_) (fun hc98 => ?_)
     ·
      exfalso
      simp [hva.1] at hc98
     ·
      refine Lyg y_move ?_
      refine Lyg y_move ?_
      refine Lyg (y_indexAddrS (hu := by exact Tryz.runUnderlying22) (hz := by exact Tryz.sizeOf3) (j := k) (hi := by first | rfl | omega) (hj' := by omega) (hj := by omega) (hr := by exact Nat.mul_one _)) ?_
      refine Lyg (y_loadS (ha := by exact Tryz.isAgg3) (hv := (by rw [List.getElem?_map, hac]; rfl))) ?_
      refine Lyg y_lss ?_
      refine Ly y_pick_false ?_
      refine Ly y_move ?_
      refine WL.split (d := 105) (by rfl) (fun hc105 => ?_) (fun hc105 => ?_)
      ·
       have hc105 := of_decide_eq_true hc105
       exfalso
       omega
      ·
       have hc105 := of_decide_eq_false hc105
       refine Lyg y_move ?_
       refine Lyg y_move ?_
       refine Lyg (y_indexAddrS (hu := by exact Tryz.runUnderlying22) (hz := by exact Tryz.sizeOf3) (j := k) (hi := by first | rfl | omega) (hj' := by omega) (hj := by omega) (hr := by exact Nat.mul_one _)) ?_
       refine Lyg (y_loadS (ha := by exact Tryz.isAgg3) (hv := (by rw [List.getElem?_map, hac]; rfl))) ?_
       refine Lyg y_gtr ?_
       refine Ly y_pick_false ?_
       refine WL.done ?_
       refine Kcond (ht := fun hc111 => ?_) (hf := fun hc111 => ?_)
       ·
        have hc111 := of_decide_eq_true hc111
        exfalso
        omega
       ·
        have hc111 := of_decide_eq_false hc111
        refine WK.skip ?_
        refine WK.seq ?_
        refine Kdr (l := [(0, 0), (1, 0), (2, 0), (3, 0), (4, 0), (5, 0), (6, 0), (7, 0), (8, 0), (9, 0), (10, 0), (11, 0), (12, 1), (13, 0), (14, 0)]) (Cs := [sl true 23 1 (some ⟨b36, 0, none⟩) 4 4 Vs, sl true 3 1 (some ⟨b74, 0, none⟩) 4 4 ([account, 1 + aroundM account 30, 1, 1073741824].map (Value.int .i64))]) (h := ?_)
        refine Oy (y := y_move) (h := ?_)
        refine Oy (y := y_neq) (h := ?_)
        refine Oy (y := y_move) (h := ?_)
        refine Oyg (y := y_move) (h := ?_)
        refine Oyg (y := y_move) (h := ?_)
        refine Oyg (y := y_move) (h := ?_)
        refine Oyg (y := y_indexAddrS (hu := by exact Tryz.runUnderlying27) (hz := by exact Tryz.sizeOf23) (j := i) (hi := by first | rfl | omega) (hj' := by omega) (hj := by omega) (hr := by exact Nat.mul_one _)) (h := ?_)
        refine Oyg (y := y_loadS (ha := by exact Tryz.isAgg23) (hv := by exact hv)) (h := ?_)
        refine Oyg (y := y_move) (h := ?_)
        refine Oyg (y := y_move) (h := ?_)
        refine Oyg (y := y_indexAddrS (hu := by exact Tryz.runUnderlying22) (hz := by exact Tryz.sizeOf3) (j := k) (hi := by first | rfl | omega) (hj' := by omega) (hj := by omega) (hr := by exact Nat.mul_one _)) (h := ?_)
        refine Oyg (y := (y_loadS (ha := by exact Tryz.isAgg3) (hv := (by rw [List.getElem?_map, hac]; rfl)))) (h := ?_)
        refine Oeg (e := e_call (by exact Tryz.call16) (t := refFind_spec false had li.length hcap li (by omega) ac)) (h := ?_)
        rintro _ -
        try dsimp only
        refine Oyg (y := y_neq) (h := ?_)
        refine Oy (y := y_pick_false) (h := ?_)
        refine WO.done ?_
        refine Kcond (ht := fun hc132 => ?_) (hf := fun hc132 => ?_)
        ·
         have hc132 := of_decide_eq_true hc132
         exfalso
         exact hc132 rfl
        ·
         have hc132 := of_decide_eq_false hc132
         refine WK.skip ?_
         refine WK.endBlock ?_
         refine WK.region ?_
         refine Ly y_move ?_
         refine Ly y_add ?_
         refine Ly y_assign ?_
         refine WL.done ?_
         exact Knext hN3 (k + 1) (by omega) (by omega)
    ·
     refine Kdr (l := [(0, 0), (1, 0), (2, 0), (3, 0), (5, 0), (6, 0), (7, 0), (8, 0), (4, 1), (9, 1), (10, 0), (11, 0), (12, 0), (13, 0), (14, 0)]) (Cs := [sl true 23 1 (some ⟨b36, 0, none⟩) 4 4 Vs, sl true 3 1 (some ⟨b74, 0, none⟩) 4 4 ([account, 1 + aroundM account 30, 1, 1073741824].map (Value.int .i64))]) (h := ?_)
     refine Oy (y := y_move) (h := ?_)
     refine Oy (y := y_move) (h := ?_)
     refine Oy (y := y_indexAddrS (hu := by exact Tryz.runUnderlying27) (hz := by exact Tryz.sizeOf23) (j := i) (hi := by first | rfl | omega) (hj' := by omega) (hj := by omega) (hr := by exact Nat.mul_one _)) (h := ?_)
     refine Oy (y := y_loadS (ha := by exact Tryz.isAgg23) (hv := by exact hv)) (h := ?_)
     refine Oy (y := y_move) (h := ?_)
     refine Oy (y := y_move) (h := ?_)
     refine Oy (y := y_indexAddrS (hu := by exact Tryz.runUnderlying22) (hz := by exact Tryz.sizeOf3) (j := k) (hi := by first | rfl | omega) (hj' := by omega) (hj := by omega) (hr := by exact Nat.mul_one _)) (h := ?_)
     refine Oy (y := (y_loadS (ha := by exact Tryz.isAgg3) (hv := (by rw [List.getElem?_map, hac]; rfl)))) (h := ?_)
     refine Oe (e := e_call (by exact Tryz.call13) (t := homes_spec false had li.length hcap li (by omega))) (h := ?_)
     rintro ⟨mad, mcap⟩ -
     try dsimp only
     refine Oe (e := e_call (by exact Tryz.call15) (t := find_spec true mad li.length mcap li (by omega) ac)) (h := ?_)
     rintro _ -
     rw [if_neg hva]
     try dsimp only
     refine Oy (y := y_move) (h := ?_)
     refine Oy (y := y_extract) (h := ?_)
     refine Oy (y := y_extract) (h := ?_)
     refine Oy (y := y_assign) (h := ?_)
     refine Oy (y := y_assign) (h := ?_)
     refine WO.done ?_
     refine WK.seq ?_
     refine WK.seq ?_
     refine WK.region ?_
     refine Ly y_move ?_
     refine Ly y_move ?_
     refine Ly (y_indexAddrS (hu := by exact Tryz.runUnderlying27) (hz := by exact Tryz.sizeOf23) (j := i) (hi := by first | rfl | omega) (hj' := by omega) (hj := by omega) (hr := by exact Nat.mul_one _)) ?_
     refine Ly (y_loadS (ha := by exact Tryz.isAgg23) (hv := by exact hv)) ?_
     refine Le (e_call (by exact Tryz.call14) (t := refValid_spec 12 false had li.length hcap li (by omega))) ?_
     rintro _ -
     try dsimp only
     refine Ly y_not ?_
     refine Ly y_move ?_
     refine WL.split (d := 98) (by rfl) (fun hc98 => ?_) (fun hc98 => ?_)
     ·
      refine Lz ?_
      refine Lz ?_
      refine Lz ?_
      refine Lz ?_
      refine Lz ?_
      refine Ly y_pick_true ?_
      refine Ly y_move ?_
      refine Lz ?_
      refine Lz ?_
      refine Lz ?_
      refine Lz ?_
      refine Lz ?_
      refine Ly y_pick_true ?_
      refine WL.done ?_
      refine Kcond (ht := fun _ => ?_) (hf := fun h => by cases h)
      refine WK.seq ?_
      refine WK.seq ?_
      refine WK.region ?_
      refine Ly y_move ?_
      refine Ly y_neq ?_
      refine Ly y_move ?_
      refine Lyg y_move ?_
      refine Lyg y_neq ?_
      refine Ly y_pick_false ?_
      refine WL.done ?_
      refine Kcond (ht := fun h => by cases h) (hf := fun _ => ?_)
      refine WK.skip ?_
      refine WK.exit ?_
      repeat (first | refine XQ.then_ ?_ | refine XQ.block (by rfl) ?_)
      refine XQ.here ?_
      refine WK.region ?_
      refine Ly y_move ?_
      refine Ly y_add ?_
      refine Ly y_assign ?_
      refine WL.done ?_
      exact Knext hN3 (k + 1) (by omega) (by omega)
     ·
      refine Lyg y_move ?_
      refine Lyg y_move ?_
      refine Lyg (y_indexAddrS (hu := by exact Tryz.runUnderlying22) (hz := by exact Tryz.sizeOf3) (j := k) (hi := by first | rfl | omega) (hj' := by omega) (hj := by omega) (hr := by exact Nat.mul_one _)) ?_
      refine Lyg (y_loadS (ha := by exact Tryz.isAgg3) (hv := (by rw [List.getElem?_map, hac]; rfl))) ?_
      refine Lyg y_lss ?_
      refine Ly y_pick_false ?_
      refine Ly y_move ?_
      refine WL.split (d := 105) (by rfl) (fun hc105 => ?_) (fun hc105 => ?_)
      ·
       have hc105 := of_decide_eq_true hc105
       refine Lz ?_
       refine Lz ?_
       refine Lz ?_
       refine Lz ?_
       refine Lz ?_
       refine Ly y_pick_true ?_
       refine WL.done ?_
       refine Kcond (ht := fun _ => ?_) (hf := fun h => by cases h)
       refine WK.seq ?_
       refine WK.seq ?_
       refine WK.region ?_
       refine Ly y_move ?_
       refine Ly y_neq ?_
       refine Ly y_move ?_
       refine Lyg y_move ?_
       refine Lyg y_neq ?_
       refine Ly y_pick_false ?_
       refine WL.done ?_
       refine Kcond (ht := fun h => by cases h) (hf := fun _ => ?_)
       refine WK.skip ?_
       refine WK.exit ?_
       repeat (first | refine XQ.then_ ?_ | refine XQ.block (by rfl) ?_)
       refine XQ.here ?_
       refine WK.region ?_
       refine Ly y_move ?_
       refine Ly y_add ?_
       refine Ly y_assign ?_
       refine WL.done ?_
       exact Knext hN3 (k + 1) (by omega) (by omega)
      ·
       have hc105 := of_decide_eq_false hc105
       refine Lyg y_move ?_
       refine Lyg y_move ?_
       refine Lyg (y_indexAddrS (hu := by exact Tryz.runUnderlying22) (hz := by exact Tryz.sizeOf3) (j := k) (hi := by first | rfl | omega) (hj' := by omega) (hj := by omega) (hr := by exact Nat.mul_one _)) ?_
       refine Lyg (y_loadS (ha := by exact Tryz.isAgg3) (hv := (by rw [List.getElem?_map, hac]; rfl))) ?_
       refine Lyg y_gtr ?_
       refine Ly y_pick_false ?_
       refine WL.done ?_
       refine Kcond (ht := fun hc111 => ?_) (hf := fun hc111 => ?_)
       ·
        have hc111 := of_decide_eq_true hc111
        refine WK.seq ?_
        refine WK.seq ?_
        refine WK.region ?_
        refine Ly y_move ?_
        refine Ly y_neq ?_
        refine Ly y_move ?_
        refine Lyg y_move ?_
        refine Lyg y_neq ?_
        refine Ly y_pick_false ?_
        refine WL.done ?_
        refine Kcond (ht := fun h => by cases h) (hf := fun _ => ?_)
        refine WK.skip ?_
        refine WK.exit ?_
        repeat (first | refine XQ.then_ ?_ | refine XQ.block (by rfl) ?_)
        refine XQ.here ?_
        refine WK.region ?_
        refine Ly y_move ?_
        refine Ly y_add ?_
        refine Ly y_assign ?_
        refine WL.done ?_
        exact Knext hN3 (k + 1) (by omega) (by omega)
       ·
        have hc111 := of_decide_eq_false hc111
        exfalso
        simp at hc98
        exact hva ⟨hc98, by omega, by omega⟩
   ·
    have hc76 := of_decide_eq_false hc76
    refine WK.exit ?_
    repeat (first | refine XQ.then_ ?_ | refine XQ.block (by rfl) ?_)
    refine XQ.here ?_
    refine WK.endBlock ?_
    refine WK.region ?_
    refine Ly y_move ?_
    refine Ly y_add ?_
    refine Ly y_assign ?_
    refine WL.done ?_
    exact Knext hN (i + 1) (by omega) (by omega)
 ·
  have hc38 := of_decide_eq_false hc38
  refine WK.exit ?_
  repeat (first | refine XQ.then_ ?_ | refine XQ.block (by rfl) ?_)
  refine XQ.here ?_
  refine WK.seq ?_
  refine WK.region ?_
  refine Le (e_call (by exact Tryz.call17) (t := lives_spec)) ?_
  rintro _ -
  try dsimp only
  refine Ly y_assign ?_
  refine WL.done ?_
  refine WK.ret ?_
  repeat (first | refine RQ.block ?_ | refine RQ.then_ ?_)
  refine RQ.body (results1 (by rfl) (by rfl)) (fun w s => ?_)
  exact ⟨(), trivial, rfl, s.toCs (by repeat (first | exact SelL.nil | exact SelL.self | apply SelL.cons | exact Sel.here | apply Sel.there | apply SelL.skip))⟩
end Go.Proofs.YtkakfmcjiabjjaaGreatDoor
