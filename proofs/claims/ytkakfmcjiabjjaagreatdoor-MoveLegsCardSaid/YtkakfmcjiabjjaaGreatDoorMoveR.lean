import Derived.Test.YtkakfmcjiabjjaaGreatDoorLivA
namespace Go.Proofs.YtkakfmcjiabjjaaGreatDoor
set_option linter.unusedVariables false
set_option linter.unusedSimpArgs false
set_option linter.unusedSectionVars false
set_option linter.unnecessarySimpa false
open Go Go.Sep
attribute [local irreducible] row sl mapO held exL allR byt mapI slr mapK rangeK vec pack
theorem refHomes_len (sh : Int) (l : List Int) (at_ : Int) : (refHomesM sh l at_).length ≤ 7 := by
  have h1 : (refHomesM sh l at_).length ≤ _ := normM_len ((homesGo sh l at_ (pickM l (at_ + 1) 6).toNat).2.1.zip (homesGo sh l at_ (pickM l (at_ + 1) 6).toNat).2.2)
  have h2 := (homesGo_len sh l at_ (pickM l (at_ + 1) 6).toNat).1
  have h3 := pickM_range l (at_ + 1) 6 (by omega)
  rw [List.length_zip] at h1
  omega
set_option maxRecDepth 20000 in
set_option maxHeartbeats 1000000 in
theorem pickR_spec (ad : Option Addr) (len cap : Nat) (l : List Int) (i most : Int) (hm : 1 ≤ most) (hl : ∀ n ∈ l, -9223372036854775808 ≤ n ∧ n ≤ 9223372036854775807) :
  Triple Tryz.prog 32 #[.slice ad len cap, .int .i64 i, .int .i64 most] [slr 1 ad len (l.map (Value.int .i64))] (Unit) (fun _ => True) (fun _ => .int .i64 (pickM l i most)) (fun _ => [slr 1 ad len (l.map (Value.int .i64))]) := by
 refine Triple.of_body (args := [.slice ad len cap, .int .i64 i, .int .i64 most]) Tryz.func32 rfl Tryz.ntmps32 (by simp) (fun g F => ?_)
 dsimp only [numb, List.cons_append, List.nil_append]
 refine WK.know (fun w s => (Sat.slrCell (s.sel1 (A := slr 1 ad len (l.map (Value.int .i64))) (by repeat (first | exact .here | apply Sel.there)))).1) (fun n1 => ?_)
 simp only [Nat.mul_one, List.length_map] at n1
 refine WK.seq ?_
 refine WK.region ?_
 refine Ly y_assign ?_
 refine WL.done ?_
 refine WK.seq ?_
 refine WK.seq ?_
 refine WK.region ?_
 refine Ly y_move ?_
 refine Ly y_lss ?_
 refine Ly y_move ?_
 refine WL.split (d := 9) (by rfl) (fun hc9 => ?_) (fun hc9 => ?_)
 ·
  have hc9 := of_decide_eq_true hc9
  refine Lz ?_
  refine Lz ?_
  refine Lz ?_
  refine Lz ?_
  refine Ly y_pick_true ?_
  refine WL.done ?_
  refine Kcond (ht := fun _ => ?_) (hf := fun h => by cases h)
  refine WK.seq ?_
  refine WK.region ?_
  refine Ly y_assign ?_
  refine WL.done ?_
  refine WK.ret ?_
  repeat (first | refine RQ.block ?_ | refine RQ.then_ ?_)
  refine RQ.body (results1 (by rfl) (by rfl)) (fun w s => ?_)
  refine ⟨(), trivial, ?_, s.toCs (by repeat (first | exact SelL.nil | exact SelL.self | apply SelL.cons | exact Sel.here | apply Sel.there | apply SelL.skip))⟩
  rw [pickM, if_pos (by omega)]
 ·
  have hc9 := of_decide_eq_false hc9
  refine Lyg y_move ?_
  refine Lyg y_move ?_
  refine Lyg (y_len (hu := by exact Tryz.runUnderlying22)) ?_
  refine Lyg y_geq ?_
  refine Ly y_pick_false ?_
  refine WL.done ?_
  refine Kcond (ht := fun hc14 => ?_) (hf := fun hc14 => ?_)
  ·
   have hc14 := of_decide_eq_true hc14
   refine WK.seq ?_
   refine WK.region ?_
   refine Ly y_assign ?_
   refine WL.done ?_
   refine WK.ret ?_
   repeat (first | refine RQ.block ?_ | refine RQ.then_ ?_)
   refine RQ.body (results1 (by rfl) (by rfl)) (fun w s => ?_)
   refine ⟨(), trivial, ?_, s.toCs (by repeat (first | exact SelL.nil | exact SelL.self | apply SelL.cons | exact Sel.here | apply Sel.there | apply SelL.skip))⟩
   rw [pickM, if_pos (by omega)]
  ·
   have hc14 := of_decide_eq_false hc14
   obtain ⟨k, rfl⟩ : ∃ k : Nat, i = k := ⟨i.toNat, by omega⟩
   obtain ⟨n, hn⟩ : ∃ x, l[k]? = some x := ⟨_, List.getElem?_eq_getElem (by omega)⟩
   refine WK.skip ?_
   refine WK.seq ?_
   refine WK.region ?_
   refine Ly y_move ?_
   refine Ly y_move ?_
   refine Ly (y_indexAddrR (hu := by exact Tryz.runUnderlying22) (hz := by exact Tryz.sizeOf3) (j := k) (hi := by first | rfl | omega) (hj' := by omega) (hj := by omega) (hr := by exact Nat.mul_one _)) ?_
   refine Ly (y_loadR (ha := by exact Tryz.isAgg3) (hv := (by rw [List.getElem?_map, hn]; rfl))) ?_
   refine Ly y_move ?_
   refine Le (e_call (by exact Tryz.call10) (t := around_spec n most (hl n (List.mem_of_getElem? hn)) hm)) ?_
   rintro _ -
   try dsimp only
   refine Ly y_assign ?_
   refine WL.done ?_
   refine WK.ret ?_
   repeat (first | refine RQ.block ?_ | refine RQ.then_ ?_)
   refine RQ.body (results1 (by rfl) (by rfl)) (fun w s => ?_)
   refine ⟨(), trivial, ?_, s.toCs (by repeat (first | exact SelL.nil | exact SelL.self | apply SelL.cons | exact Sel.here | apply Sel.there | apply SelL.skip))⟩
   rw [pickM, if_neg (by omega)]
   rw [show ((k : Int)).toNat = k from rfl, hn]
   rfl
set_option maxRecDepth 20000 in
set_option maxHeartbeats 4000000 in
theorem refHomesR_spec (shards : Int) (ad : Option Addr) (len cap : Nat) (l : List Int) (at_ : Int) (hl : ∀ n ∈ l, -9223372036854775808 ≤ n ∧ n ≤ 9223372036854775807) (h1 : 1 ≤ shards) (h2 : 0 ≤ at_ ∧ at_ ≤ 1000000) :
  Triple Tryz.prog 9 #[.int .i64 shards, .slice ad len cap, .int .i64 at_] [slr 1 ad len (l.map (Value.int .i64))] (Option Addr × Nat) (fun _ => True) (fun x => .slice x.1 (refHomesM shards l at_).length x.2) (fun x => [sl true 83 2 x.1 (refHomesM shards l at_).length x.2 (homesC (refHomesM shards l at_)), slr 1 ad len (l.map (Value.int .i64))]) := by
 refine Triple.of_body (args := [.int .i64 shards, .slice ad len cap, .int .i64 at_]) Tryz.func9 rfl Tryz.ntmps9 (by simp) (fun g F => ?_)
 dsimp only [numb, List.cons_append, List.nil_append]
 have h6 := pickM_range l (at_ + 1) 6 (by omega)
 obtain ⟨M, hM⟩ : ∃ M : Nat, pickM l (at_ + 1) 6 = M := ⟨(pickM l (at_ + 1) 6).toNat, by omega⟩
 refine WK.seq ?_
 refine WK.region ?_
 refine Ly y_assign ?_
 refine WL.done ?_
 refine WK.seq ?_
 refine WK.region ?_
 refine Le (e_mkSlice1 (hu := by exact Tryz.runUnderlying22) (hk := by exact Tryz.sizeOf3) (hz := by exact Tryz.zeroValue3) (hk0 := by rfl) (hb := by decide) (h1 := by rfl)) ?_
 rintro b11 -
 try dsimp only
 refine Ly y_assign ?_
 refine WL.done ?_
 refine WK.seq ?_
 refine WK.region ?_
 refine Ly y_move ?_
 refine Ly y_move ?_
 refine Ly y_move ?_
 refine Le (e_call (by exact Tryz.call32) (t := pickR_spec ad len cap l at_ shards (by omega) hl)) ?_
 rintro _ -
 try dsimp only
 refine Le (e_mkSlice1 (hu := by exact Tryz.runUnderlying22) (hk := by exact Tryz.sizeOf3) (hz := by exact Tryz.zeroValue3) (hk0 := by rfl) (hb := by decide) (h1 := by rfl)) ?_
 rintro b16 -
 try dsimp only
 refine Ly y_assign ?_
 refine WL.done ?_
 refine WK.seq ?_
 refine WK.region ?_
 refine Ly y_assign ?_
 refine WL.done ?_
 refine WK.seq ?_
 refine WK.seq ?_
 refine WK.region ?_
 refine Ly y_assign ?_
 refine WL.done ?_
 refine WK.block ?_
 refine Kloop (ι := Nat × (Option Addr × Nat) × (Option Addr × Nat)) (fun x => x.1 ≤ M) (fun x => [(0, .int .i64 shards), (1, .slice ad len cap), (2, .int .i64 at_), (7, .slice x.2.1.1 (x.1 + 1) x.2.1.2), (8, .slice x.2.2.1 (x.1 + 1) x.2.2.2), (9, .int .i64 (homesGo shards l at_ x.1).1), (10, .int .i64 (x.1 : Int))]) (fun x => sl true 3 1 x.2.1.1 (x.1 + 1) x.2.1.2 ((homesGo shards l at_ x.1).2.1.map (Value.int .i64)) :: sl true 3 1 x.2.2.1 (x.1 + 1) x.2.2.2 ((homesGo shards l at_ x.1).2.2.map (Value.int .i64)) :: slr 1 ad len (l.map (Value.int .i64)) :: F) (fun x => M - x.1) ((0, (some ⟨b11, 0, none⟩, 1), (some ⟨b16, 0, none⟩, 1))) (Nat.zero_le _) (round := ?_)
 rintro ⟨i, ⟨ad7, cap7⟩, ⟨ad8, cap8⟩⟩ hi N hN
 dsimp only at hi ⊢
 obtain ⟨g1, g2, g3, g4⟩ := homesGo_len shards l at_ i
 refine WK.seq ?_
 refine WK.seq ?_
 refine WK.region ?_
 refine Ly y_move ?_
 refine Ly y_move ?_
 refine Ly y_move ?_
 refine Ly y_add ?_
 refine Le (e_call (by exact Tryz.call32) (t := pickR_spec ad len cap l (at_ + 1) 6 (by omega) hl)) ?_
 rintro _ -
 rw [hM]
 try dsimp only
 refine Ly y_lss ?_
 refine WL.done ?_
 refine Kcond (ht := fun hc22 => ?_) (hf := fun hc22 => ?_)
 ·
  have hc22 := of_decide_eq_true hc22
  refine WK.skip ?_
  refine WK.seq ?_
  refine WK.block ?_
  refine WK.seq ?_
  refine WK.region ?_
  refine Ly y_move ?_
  refine Ly y_add ?_
  refine Ly y_move ?_
  refine Ly y_move ?_
  refine Ly y_move ?_
  refine Ly y_mul ?_
  refine Ly y_add ?_
  refine Ly y_add ?_
  refine Le (e_call (by exact Tryz.call32) (t := pickR_spec ad len cap l (at_ + 2 * (i : Int) + 2) 4 (by omega) hl)) ?_
  rintro _ -
  have h33 := pickM_range l (at_ + 2 * (i : Int) + 2) 4 (by omega)
  try dsimp only
  refine Ly y_add ?_
  refine Ly y_assign ?_
  refine WL.done ?_
  refine WK.seq ?_
  refine WK.region ?_
  refine Ly y_move ?_
  refine Ly y_move ?_
  refine Le (e_mkSlice1 (hu := by exact Tryz.runUnderlying22) (hk := by exact Tryz.sizeOf3) (hz := by exact Tryz.zeroValue3) (hk0 := by rfl) (hb := by decide) (h1 := by rfl)) ?_
  rintro b37 -
  try dsimp only
  refine Le (e_append (et := elem22) (htx := by exact Tryz.underlying22) (hb := by omega) (hm := by omega)) ?_
  rintro ⟨ad38, cap38⟩ -
  try dsimp only
  refine Ly y_assign ?_
  refine WL.done ?_
  refine WK.region ?_
  refine Ly y_move ?_
  refine Ly y_move ?_
  refine Ly y_move ?_
  refine Ly y_move ?_
  refine Ly y_mul ?_
  refine Ly y_add ?_
  refine Ly y_add ?_
  refine Ly y_move ?_
  refine Le (e_call (by exact Tryz.call32) (t := pickR_spec ad len cap l (at_ + 2 * (i : Int) + 3) shards (by omega) hl)) ?_
  rintro _ -
  try dsimp only
  refine Le (e_mkSlice1 (hu := by exact Tryz.runUnderlying22) (hk := by exact Tryz.sizeOf3) (hz := by exact Tryz.zeroValue3) (hk0 := by rfl) (hb := by decide) (h1 := by rfl)) ?_
  rintro b48 -
  try dsimp only
  refine Le (e_append (et := elem22) (htx := by exact Tryz.underlying22) (hb := by omega) (hm := by omega)) ?_
  rintro ⟨ad49, cap49⟩ -
  try dsimp only
  refine Ly y_assign ?_
  refine WL.done ?_
  refine WK.endBlock ?_
  refine WK.region ?_
  refine Ly y_move ?_
  refine Ly y_add ?_
  refine Ly y_assign ?_
  refine WL.done ?_
  apply WK.next hN (i + 1, (ad38, cap38), (ad49, cap49)) (by dsimp only; omega) (by dsimp only; omega) (by repeat (first | exact KK.nil | refine KK.cons (by first | rfl | (simp; done)) ?_))
  dsimp only
  simp only [homesGo, List.map_append]
  exact (by repeat (first | exact SelL.nil | exact SelL.self | apply SelL.cons | exact Sel.here | apply Sel.there | apply SelL.skip))
 ·
  have hc22 := of_decide_eq_false hc22
  obtain rfl : M = i := by omega
  refine WK.exit ?_
  repeat (first | refine XQ.then_ ?_ | refine XQ.block (by rfl) ?_)
  refine XQ.here ?_
  refine WK.seq ?_
  refine WK.region ?_
  refine Ly y_move ?_
  refine Ly y_move ?_
  refine Le (e_call (by exact Tryz.call33) (t := normal_spec true true ad7 ad8 (M + 1) cap7 cap8 _ _ (by omega))) ?_
  rintro ⟨ad52, cap52⟩ -
  try dsimp only
  refine Ly y_assign ?_
  refine WL.done ?_
  refine WK.ret ?_
  repeat (first | refine RQ.block ?_ | refine RQ.then_ ?_)
  refine RQ.body (results1 (by rfl) (by rfl)) (fun w s => ?_)
  refine ⟨(ad52, cap52), trivial, ?_, ?_⟩
  · rw [refHomesM, hM]
    rfl
  · rw [refHomesM, hM]
    exact s.toCs (by repeat (first | exact SelL.nil | exact SelL.self | apply SelL.cons | exact Sel.here | apply Sel.there | apply SelL.skip))
end Go.Proofs.YtkakfmcjiabjjaaGreatDoor
