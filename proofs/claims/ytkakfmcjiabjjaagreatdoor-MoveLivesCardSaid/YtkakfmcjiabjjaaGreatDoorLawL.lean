import Derived.Test.YtkakfmcjiabjjaaGreatDoorMoveR
import Derived.Test.YtkakfmcjiabjjaaGreatDoorMovN
namespace Go.Proofs.YtkakfmcjiabjjaaGreatDoor
set_option linter.unusedVariables false
set_option linter.unusedSimpArgs false
set_option linter.unusedSectionVars false
set_option linter.unnecessarySimpa false
open Go Go.Sep
attribute [local irreducible] row sl mapO held exL allR byt mapI slr mapK rangeK vec pack
/-- Splitting the same range off again changes nothing. -/
theorem split_again {l : List HomeM} (g : Good 5 l) {a b s : Int} (hs : 0 ≤ s ∧ s < 5) (hab : a ≤ b) : changedM (splitRw a b s) (changedM (splitRw a b s) l) = changedM (splitRw a b s) l := by
  obtain ⟨g1, f1⟩ := split_good g hs hab
  obtain ⟨g2, f2⟩ := split_good g1 hs hab
  refine good_unique g2 g1 fun c h1 h2 => ?_
  rw [f2 c h1 h2, f1 c h1 h2]
  split <;> rfl
/-- Splitting off to a shard on which nobody lives and joining it to another one is splitting off to that one. -/
theorem split_join {l : List HomeM} (g : Good 4 l) {a b o : Int} (ho : 0 ≤ o ∧ o < 4) (hab : a ≤ b) : changedM (joinRw 7 o) (changedM (splitRw a b 7) l) = changedM (splitRw a b o) l := by
  obtain ⟨g1, f1⟩ := split_good (g.mono (b := 8) (by decide)) (s := 7) (by decide) hab
  obtain ⟨g2, f2⟩ := join_good g1 (s := 7) (i := o) (by omega)
  obtain ⟨g3, f3⟩ := split_good g ho hab
  refine good_unique g2 g3 fun c h1 h2 => ?_
  rw [f2 c h1, f1 c h1 h2, f3 c h1 h2]
  have := g.fnd (by decide) c
  by_cases k : a ≤ c ∧ c ≤ b
  · rw [if_pos k, if_pos k, if_pos rfl]
  · rw [if_neg k, if_neg k, if_neg (by omega)]
set_option maxRecDepth 20000 in
set_option maxHeartbeats 8000000 in
theorem livesLaw_spec (ad : Option Addr) (len cap : Nat) (l : List Int) (hl : ∀ n ∈ l, -9223372036854775808 ≤ n ∧ n ≤ 9223372036854775807) (frm to shard into account : Int) (h_frm : -9223372036854775808 ≤ frm ∧ frm ≤ 9223372036854775807) (h_to : -9223372036854775808 ≤ to ∧ to ≤ 9223372036854775807) (h_shard : -9223372036854775808 ≤ shard ∧ shard ≤ 9223372036854775807) (h_into : -9223372036854775808 ≤ into ∧ into ≤ 9223372036854775807) (h_account : -9223372036854775808 ≤ account ∧ account ≤ 9223372036854775807) :
  Triple Tryz.prog 5 #[.slice ad len cap, .int .i64 frm, .int .i64 to, .int .i64 shard, .int .i64 into, .int .i64 account] [slr 1 ad len (l.map (Value.int .i64))] (Unit) (fun _ => True) (fun _ => .bool true) (fun _ => [slr 1 ad len (l.map (Value.int .i64))]) := by
 refine Triple.of_body (args := [.slice ad len cap, .int .i64 frm, .int .i64 to, .int .i64 shard, .int .i64 into, .int .i64 account]) Tryz.func5 rfl Tryz.ntmps5 (by simp) (fun g F => ?_)
 dsimp only [numb, List.cons_append, List.nil_append]
 refine WK.seq ?_
 refine WK.region ?_
 refine Ly y_assign ?_
 refine WL.done ?_
 refine WK.seq ?_
 refine WK.region ?_
 refine Ly y_move ?_
 refine Le (e_call (by exact Tryz.call9) (t := refHomesR_spec 4 ad len cap l 0 hl (by omega) (by decide))) ?_
 rintro ⟨gad, gcap⟩ -
 dsimp only
 obtain ⟨G, hG⟩ : ∃ G, refHomesM 4 l 0 = G := ⟨_, rfl⟩
 have hGl := refHomes_len 4 l 0
 rw [hG] at hGl ⊢
 try dsimp only
 refine Le (e_call (by exact Tryz.call13) (t := homes_spec true gad G.length gcap G (by omega))) ?_
 rintro ⟨mad, mcap⟩ -
 try dsimp only
 refine Ly y_assign ?_
 refine WL.done ?_
 refine WK.seq ?_
 refine WK.region ?_
 refine Ly y_move ?_
 refine Le (e_call (by exact Tryz.call10) (t := around_spec frm 20 h_frm (by omega))) ?_
 rintro _ -
 have h46 := aroundM_range frm 20 (by omega)
 try dsimp only
 refine Ly y_add ?_
 obtain ⟨f, hfe⟩ : ∃ f, 1 + aroundM frm 20 = f := ⟨_, rfl⟩
 rw [hfe]
 refine Ly y_assign ?_
 refine WL.done ?_
 refine WK.seq ?_
 refine WK.region ?_
 refine Ly y_move ?_
 refine Ly y_move ?_
 refine Le (e_call (by exact Tryz.call10) (t := around_spec to 20 h_to (by omega))) ?_
 rintro _ -
 have h50 := aroundM_range to 20 (by omega)
 try dsimp only
 refine Ly y_add ?_
 obtain ⟨t, hte⟩ : ∃ t, f + aroundM to 20 = t := ⟨_, rfl⟩
 rw [hte]
 refine Ly y_assign ?_
 refine WL.done ?_
 refine WK.seq ?_
 refine WK.region ?_
 refine Ly y_move ?_
 refine Le (e_call (by exact Tryz.call10) (t := around_spec shard 5 h_shard (by omega))) ?_
 rintro _ -
 have h53 := aroundM_range shard 5 (by omega)
 obtain ⟨sv, hsv⟩ : ∃ sv, aroundM shard 5 = sv := ⟨_, rfl⟩
 rw [hsv] at h53 ⊢
 try dsimp only
 refine Ly y_assign ?_
 refine WL.done ?_
 refine WK.seq ?_
 refine WK.region ?_
 refine Ly y_move ?_
 refine Le (e_call (by exact Tryz.call10) (t := around_spec into 5 h_into (by omega))) ?_
 rintro _ -
 have h55 := aroundM_range into 5 (by omega)
 obtain ⟨iv, hiv⟩ : ∃ iv, aroundM into 5 = iv := ⟨_, rfl⟩
 rw [hiv] at h55 ⊢
 try dsimp only
 refine Ly y_assign ?_
 refine WL.done ?_
 refine WK.seq ?_
 have gG := refHomes_good 4 l 0 (by decide)
 rw [hG] at gG
 have hf : 1 ≤ f ∧ f ≤ 20 := by omega
 have ht : f ≤ t ∧ t ≤ 40 := by omega
 have gG5 := gG.mono (b := 5) (by decide)
 have vG : VH 12 G := gG.valid (by decide) (by decide) (by decide)
 have okA : SplitOK G f t sv := ⟨vG, by omega, by omega, by omega, by omega⟩
 have okB : JoinOK G sv iv := ⟨vG, by omega, by omega⟩
 have okD : SplitOK G f t 7 := ⟨vG, by omega, by omega, by omega, by omega⟩
 obtain ⟨gA, fA⟩ := split_good gG5 (a := f) (b := t) (s := sv) (by omega) ht.1
 obtain ⟨gB, fB⟩ := join_good gG5 (s := sv) (i := iv) (by omega)
 obtain ⟨gD, fD⟩ := split_good (gG.mono (b := 8) (by decide)) (a := f) (b := t) (s := 7) (by decide) ht.1
 have hAg := split_again gG5 (a := f) (b := t) (s := sv) (by omega) ht.1
 have hAl := split_len f t sv G
 have hBl := join_len sv iv G
 have hDl := split_len f t 7 G
 obtain ⟨A, hA⟩ : ∃ A, changedM (splitRw f t sv) G = A := ⟨_, rfl⟩
 obtain ⟨B, hB⟩ : ∃ B, changedM (joinRw sv iv) G = B := ⟨_, rfl⟩
 obtain ⟨D, hD⟩ : ∃ D, changedM (splitRw f t 7) G = D := ⟨_, rfl⟩
 rw [hA] at gA fA hAg hAl
 rw [hB] at gB fB hBl
 rw [hD] at gD fD hDl
 have vA : VH 12 A := gA.valid (by decide) (by decide) (by decide)
 have vB : VH 12 B := gB.valid (by decide) (by decide) (by decide)
 have vD : VH 12 D := gD.valid (by decide) (by decide) (by decide)
 have okC : SplitOK A f t sv := ⟨vA, by omega, by omega, by omega, by omega⟩
 refine WK.region ?_
 refine Ly y_move ?_
 refine Ly y_move ?_
 refine Ly y_move ?_
 refine Ly y_move ?_
 refine Le (e_call (by exact Tryz.call18) (t := split_spec true mad G.length mcap G (by omega) f t sv)) ?_
 rintro x61 hx61
 obtain ⟨⟨aad, acap⟩, rfl⟩ := Option.isSome_iff_exists.1 (hx61.2 okA)
 dsimp only
 rw [hA]
 try dsimp only
 refine Ly y_move ?_
 refine Ly y_extract ?_
 refine Ly y_extract ?_
 refine Ly y_assign ?_
 refine Ly y_assign ?_
 refine WL.done ?_
 refine WK.seq ?_
 refine WK.region ?_
 refine Ly y_move ?_
 refine Ly y_move ?_
 refine Ly y_move ?_
 refine Le (e_call (by exact Tryz.call19) (t := join_spec true mad G.length mcap G (by omega) sv iv)) ?_
 rintro x68 hx68
 obtain ⟨⟨bad, bcap⟩, rfl⟩ := Option.isSome_iff_exists.1 (hx68.2 okB)
 dsimp only
 rw [hB]
 try dsimp only
 refine Ly y_move ?_
 refine Ly y_extract ?_
 refine Ly y_extract ?_
 refine Ly y_assign ?_
 refine Ly y_assign ?_
 refine WL.done ?_
 refine WK.seq ?_
 refine WK.region ?_
 refine Ly y_move ?_
 refine Ly y_move ?_
 refine Ly y_move ?_
 refine Ly y_move ?_
 refine Le (e_call (by exact Tryz.call18) (t := split_spec true aad A.length acap A (by omega) f t sv)) ?_
 rintro x76 hx76
 obtain ⟨⟨cad, ccap⟩, rfl⟩ := Option.isSome_iff_exists.1 (hx76.2 okC)
 dsimp only
 rw [hAg]
 try dsimp only
 refine Ly y_move ?_
 refine Ly y_extract ?_
 refine Ly y_extract ?_
 refine Ly y_assign ?_
 refine Ly y_assign ?_
 refine WL.done ?_
 refine WK.seq ?_
 refine WK.region ?_
 refine Ly y_move ?_
 refine Ly y_move ?_
 refine Ly y_move ?_
 refine Le (e_call (by exact Tryz.call18) (t := split_spec true mad G.length mcap G (by omega) f t 7)) ?_
 rintro x83 hx83
 obtain ⟨⟨dad, dcap⟩, rfl⟩ := Option.isSome_iff_exists.1 (hx83.2 okD)
 dsimp only
 rw [hD]
 try dsimp only
 refine Ly y_move ?_
 refine Ly y_extract ?_
 refine Ly y_extract ?_
 refine Ly y_assign ?_
 refine Ly y_assign ?_
 refine WL.done ?_
 refine WK.seq ?_
 refine WK.seq ?_
 refine WK.region ?_
 refine Ly y_move ?_
 refine Ly y_neq ?_
 refine Ly y_move ?_
 refine Lyg y_move ?_
 refine Lyg y_neq ?_
 refine Ly y_pick_false ?_
 refine Ly y_move ?_
 refine Lyg y_move ?_
 refine Lyg y_neq ?_
 refine Ly y_pick_false ?_
 refine Ly y_move ?_
 refine Lyg y_move ?_
 refine Lyg y_neq ?_
 refine Ly y_pick_false ?_
 refine Ly y_move ?_
 refine Lyg y_move ?_
 refine Lyg y_move ?_
 refine Leg (e_call (by exact Tryz.call23) (t := equal_spec true true aad cad A.length acap A.length ccap A A (by omega))) ?_
 rintro _ -
 rw [decide_eq_true rfl]
 try dsimp only
 refine Lyg y_not ?_
 refine Ly y_pick_false ?_
 refine Ly y_move ?_
 refine Lyg y_move ?_
 refine Leg (e_call (by exact Tryz.call12) (t := valid_spec 5 true aad A.length acap A (by omega))) ?_
 rintro _ -
 rw [if_pos (gA.valid (by decide) (by decide) (by decide))]
 try dsimp only
 refine Lyg y_neq ?_
 refine Ly y_pick_false ?_
 refine Ly y_move ?_
 refine Lyg y_move ?_
 refine Leg (e_call (by exact Tryz.call12) (t := valid_spec 5 true bad B.length bcap B (by omega))) ?_
 rintro _ -
 rw [if_pos (gB.valid (by decide) (by decide) (by decide))]
 try dsimp only
 refine Lyg y_neq ?_
 refine Ly y_pick_false ?_
 refine WL.done ?_
 refine Kcond (ht := fun h => by cases h) (hf := fun _ => ?_)
 refine WK.skip ?_
 refine WK.seq ?_
 refine WK.seq ?_
 refine WK.region ?_
 refine Ly y_assign ?_
 refine WL.done ?_
 refine WK.block ?_
 refine Kloop (ι := Nat) (fun n => 1 ≤ n ∧ n ≤ 45) (fun n => [(5, .int .i64 account), (13, .slice mad G.length mcap), (14, .int .i64 f), (15, .int .i64 t), (16, .int .i64 sv), (17, .int .i64 iv), (18, .slice aad A.length acap), (20, .slice bad B.length bcap), (24, .slice dad D.length dcap), (26, .int .i64 (n : Int))]) (fun _ => sl true 84 2 mad G.length mcap (homesC G) :: sl true 84 2 aad A.length acap (homesC A) :: sl true 84 2 bad B.length bcap (homesC B) :: sl true 84 2 dad D.length dcap (homesC D) :: slr 1 ad len (l.map (Value.int .i64)) :: F) (fun n => 45 - n) (1) (⟨by decide, by decide⟩) (round := ?_)
 rintro n ⟨hn1, hn2⟩ N hN
 refine WK.seq ?_
 refine WK.seq ?_
 refine WK.region ?_
 refine Ly y_move ?_
 refine Ly y_lss ?_
 refine WL.done ?_
 refine Kcond (ht := fun hc117 => ?_) (hf := fun hc117 => ?_)
 ·
  have hc117 := of_decide_eq_true hc117
  refine WK.skip ?_
  refine WK.seq ?_
  refine WK.block ?_
  refine WK.seq ?_
  refine WK.region ?_
  refine Ly y_move ?_
  refine Ly y_assign ?_
  refine WL.done ?_
  refine WK.seq ?_
  refine WK.seq ?_
  refine WK.region ?_
  refine Ly y_move ?_
  refine Ly y_eql ?_
  refine WL.done ?_
  refine WK.cut (ι := Int) (fun k => 1 ≤ k ∧ k ≤ 1044) (fun k => [(5, .int .i64 account), (13, .slice mad G.length mcap), (14, .int .i64 f), (15, .int .i64 t), (16, .int .i64 sv), (17, .int .i64 iv), (18, .slice aad A.length acap), (20, .slice bad B.length bcap), (24, .slice dad D.length dcap), (26, .int .i64 (n : Int)), (27, .int .i64 k)]) (fun _ => sl true 84 2 mad G.length mcap (homesC G) :: sl true 84 2 aad A.length acap (homesC A) :: sl true 84 2 bad B.length bcap (homesC B) :: sl true 84 2 dad D.length dcap (homesC D) :: slr 1 ad len (l.map (Value.int .i64)) :: F) ?_ ?_
  ·
   rintro k hk
   refine WK.seq ?_
   refine WK.region ?_
   refine Ly y_move ?_
   refine Ly y_move ?_
   refine Le (e_call (by exact Tryz.call15) (t := find_spec true mad G.length mcap G (by omega) k)) ?_
   rintro _ -
   rw [if_pos ⟨vG, by omega, by omega⟩]
   try dsimp only
   refine Ly y_move ?_
   refine Ly y_extract ?_
   refine Ly y_extract ?_
   refine Ly y_assign ?_
   refine Ly y_assign ?_
   refine WL.done ?_
   refine WK.seq ?_
   refine WK.region ?_
   refine Ly y_move ?_
   refine Ly y_move ?_
   refine Le (e_call (by exact Tryz.call15) (t := find_spec true aad A.length acap A (by omega) k)) ?_
   rintro _ -
   rw [if_pos ⟨vA, by omega, by omega⟩]
   try dsimp only
   refine Ly y_move ?_
   refine Ly y_extract ?_
   refine Ly y_extract ?_
   refine Ly y_assign ?_
   refine Ly y_assign ?_
   refine WL.done ?_
   refine WK.seq ?_
   refine WK.region ?_
   refine Ly y_move ?_
   refine Ly y_move ?_
   refine Le (e_call (by exact Tryz.call15) (t := find_spec true bad B.length bcap B (by omega) k)) ?_
   rintro _ -
   rw [if_pos ⟨vB, by omega, by omega⟩]
   try dsimp only
   refine Ly y_move ?_
   refine Ly y_extract ?_
   refine Ly y_extract ?_
   refine Ly y_assign ?_
   refine Ly y_assign ?_
   refine WL.done ?_
   refine WK.seq ?_
   refine WK.region ?_
   refine Ly y_move ?_
   refine Ly y_assign ?_
   refine WL.done ?_
   refine WK.seq ?_
   refine WK.seq ?_
   refine WK.region ?_
   refine Ly y_move ?_
   refine Ly y_move ?_
   refine Ly y_geq ?_
   refine Ly y_move ?_
   refine WL.split (d := 148) (by rfl) (fun hc148 => ?_) (fun hc148 => ?_)
   ·
    have hc148 := of_decide_eq_true hc148
    refine Lyg y_move ?_
    refine Lyg y_move ?_
    refine Lyg y_leq ?_
    refine Ly y_pick_true ?_
    refine WL.done ?_
    refine Kcond (ht := fun hc152 => ?_) (hf := fun hc152 => ?_)
    ·
     have hc152 := of_decide_eq_true hc152
     refine WK.region ?_
     refine Ly y_move ?_
     refine Ly y_assign ?_
     refine WL.done ?_
     refine WK.seq ?_
     refine WK.region ?_
     refine Ly y_move ?_
     refine Ly y_assign ?_
     refine WL.done ?_
     refine WK.seq ?_
     refine WK.seq ?_
     refine WK.region ?_
     refine Ly y_move ?_
     refine Ly y_move ?_
     refine Ly y_eql ?_
     refine WL.done ?_
     refine Kcond (ht := fun hc157 => ?_) (hf := fun hc157 => ?_)
     ·
      have hc157 := of_decide_eq_true hc157
      refine WK.region ?_
      refine Ly y_move ?_
      refine Ly y_assign ?_
      refine WL.done ?_
      refine WK.seq ?_
      refine WK.region ?_
      refine Ly y_move ?_
      refine Ly y_neq ?_
      refine Ly y_move ?_
      refine Lyg y_move ?_
      refine Lyg y_neq ?_
      refine Ly y_pick_false ?_
      refine Ly y_move ?_
      refine Lyg y_move ?_
      refine Lyg y_neq ?_
      refine Ly y_pick_false ?_
      refine Ly y_move ?_
      refine Lyg y_move ?_
      refine Lyg y_move ?_
      refine Lyg y_neq ?_
      refine Ly y_pick_false ?_
      refine Ly y_move ?_
      refine WL.split (d := 174) (by rfl) (fun hc174 => ?_) (fun hc174 => ?_)
      ·
       have hc174 := of_decide_eq_true hc174
       exfalso
       have h := fA k (by omega) (by omega)
       first | (rw [if_pos ⟨by omega, by omega⟩] at h; exact hc174 h) | (rw [if_neg (by omega)] at h; exact hc174 h)
      ·
       have hc174 := of_decide_eq_false hc174
       refine Lyg y_move ?_
       refine Lyg y_move ?_
       refine Lyg y_neq ?_
       refine Ly y_pick_false ?_
       refine WL.done ?_
       refine Kcond (ht := fun hc178 => ?_) (hf := fun hc178 => ?_)
       ·
        have hc178 := of_decide_eq_true hc178
        exfalso
        have h := fB k (by omega)
        first | (rw [if_pos (by omega)] at h; exact hc178 h) | (rw [if_neg (by omega)] at h; exact hc178 h)
       ·
        have hc178 := of_decide_eq_false hc178
        refine WK.skip ?_
        refine WK.endBlock ?_
        refine WK.region ?_
        refine Ly y_move ?_
        refine Ly y_add ?_
        refine Ly y_assign ?_
        refine WL.done ?_
        exact Knext hN (n + 1) (by omega) (by omega)
     ·
      have hc157 := of_decide_eq_false hc157
      refine WK.skip ?_
      refine WK.seq ?_
      refine WK.region ?_
      refine Ly y_move ?_
      refine Ly y_neq ?_
      refine Ly y_move ?_
      refine Lyg y_move ?_
      refine Lyg y_neq ?_
      refine Ly y_pick_false ?_
      refine Ly y_move ?_
      refine Lyg y_move ?_
      refine Lyg y_neq ?_
      refine Ly y_pick_false ?_
      refine Ly y_move ?_
      refine Lyg y_move ?_
      refine Lyg y_move ?_
      refine Lyg y_neq ?_
      refine Ly y_pick_false ?_
      refine Ly y_move ?_
      refine WL.split (d := 174) (by rfl) (fun hc174 => ?_) (fun hc174 => ?_)
      ·
       have hc174 := of_decide_eq_true hc174
       exfalso
       have h := fA k (by omega) (by omega)
       first | (rw [if_pos ⟨by omega, by omega⟩] at h; exact hc174 h) | (rw [if_neg (by omega)] at h; exact hc174 h)
      ·
       have hc174 := of_decide_eq_false hc174
       refine Lyg y_move ?_
       refine Lyg y_move ?_
       refine Lyg y_neq ?_
       refine Ly y_pick_false ?_
       refine WL.done ?_
       refine Kcond (ht := fun hc178 => ?_) (hf := fun hc178 => ?_)
       ·
        have hc178 := of_decide_eq_true hc178
        exfalso
        have h := fB k (by omega)
        first | (rw [if_pos (by omega)] at h; exact hc178 h) | (rw [if_neg (by omega)] at h; exact hc178 h)
       ·
        have hc178 := of_decide_eq_false hc178
        refine WK.skip ?_
        refine WK.endBlock ?_
        refine WK.region ?_
        refine Ly y_move ?_
        refine Ly y_add ?_
        refine Ly y_assign ?_
        refine WL.done ?_
        exact Knext hN (n + 1) (by omega) (by omega)
    ·
     have hc152 := of_decide_eq_false hc152
     refine WK.skip ?_
     refine WK.seq ?_
     refine WK.region ?_
     refine Ly y_move ?_
     refine Ly y_assign ?_
     refine WL.done ?_
     refine WK.seq ?_
     refine WK.seq ?_
     refine WK.region ?_
     refine Ly y_move ?_
     refine Ly y_move ?_
     refine Ly y_eql ?_
     refine WL.done ?_
     refine Kcond (ht := fun hc157 => ?_) (hf := fun hc157 => ?_)
     ·
      have hc157 := of_decide_eq_true hc157
      refine WK.region ?_
      refine Ly y_move ?_
      refine Ly y_assign ?_
      refine WL.done ?_
      refine WK.seq ?_
      refine WK.region ?_
      refine Ly y_move ?_
      refine Ly y_neq ?_
      refine Ly y_move ?_
      refine Lyg y_move ?_
      refine Lyg y_neq ?_
      refine Ly y_pick_false ?_
      refine Ly y_move ?_
      refine Lyg y_move ?_
      refine Lyg y_neq ?_
      refine Ly y_pick_false ?_
      refine Ly y_move ?_
      refine Lyg y_move ?_
      refine Lyg y_move ?_
      refine Lyg y_neq ?_
      refine Ly y_pick_false ?_
      refine Ly y_move ?_
      refine WL.split (d := 174) (by rfl) (fun hc174 => ?_) (fun hc174 => ?_)
      ·
       have hc174 := of_decide_eq_true hc174
       exfalso
       have h := fA k (by omega) (by omega)
       first | (rw [if_pos ⟨by omega, by omega⟩] at h; exact hc174 h) | (rw [if_neg (by omega)] at h; exact hc174 h)
      ·
       have hc174 := of_decide_eq_false hc174
       refine Lyg y_move ?_
       refine Lyg y_move ?_
       refine Lyg y_neq ?_
       refine Ly y_pick_false ?_
       refine WL.done ?_
       refine Kcond (ht := fun hc178 => ?_) (hf := fun hc178 => ?_)
       ·
        have hc178 := of_decide_eq_true hc178
        exfalso
        have h := fB k (by omega)
        first | (rw [if_pos (by omega)] at h; exact hc178 h) | (rw [if_neg (by omega)] at h; exact hc178 h)
       ·
        have hc178 := of_decide_eq_false hc178
        refine WK.skip ?_
        refine WK.endBlock ?_
        refine WK.region ?_
        refine Ly y_move ?_
        refine Ly y_add ?_
        refine Ly y_assign ?_
        refine WL.done ?_
        exact Knext hN (n + 1) (by omega) (by omega)
     ·
      have hc157 := of_decide_eq_false hc157
      refine WK.skip ?_
      refine WK.seq ?_
      refine WK.region ?_
      refine Ly y_move ?_
      refine Ly y_neq ?_
      refine Ly y_move ?_
      refine Lyg y_move ?_
      refine Lyg y_neq ?_
      refine Ly y_pick_false ?_
      refine Ly y_move ?_
      refine Lyg y_move ?_
      refine Lyg y_neq ?_
      refine Ly y_pick_false ?_
      refine Ly y_move ?_
      refine Lyg y_move ?_
      refine Lyg y_move ?_
      refine Lyg y_neq ?_
      refine Ly y_pick_false ?_
      refine Ly y_move ?_
      refine WL.split (d := 174) (by rfl) (fun hc174 => ?_) (fun hc174 => ?_)
      ·
       have hc174 := of_decide_eq_true hc174
       exfalso
       have h := fA k (by omega) (by omega)
       first | (rw [if_pos ⟨by omega, by omega⟩] at h; exact hc174 h) | (rw [if_neg (by omega)] at h; exact hc174 h)
      ·
       have hc174 := of_decide_eq_false hc174
       refine Lyg y_move ?_
       refine Lyg y_move ?_
       refine Lyg y_neq ?_
       refine Ly y_pick_false ?_
       refine WL.done ?_
       refine Kcond (ht := fun hc178 => ?_) (hf := fun hc178 => ?_)
       ·
        have hc178 := of_decide_eq_true hc178
        exfalso
        have h := fB k (by omega)
        first | (rw [if_pos (by omega)] at h; exact hc178 h) | (rw [if_neg (by omega)] at h; exact hc178 h)
       ·
        have hc178 := of_decide_eq_false hc178
        refine WK.skip ?_
        refine WK.endBlock ?_
        refine WK.region ?_
        refine Ly y_move ?_
        refine Ly y_add ?_
        refine Ly y_assign ?_
        refine WL.done ?_
        exact Knext hN (n + 1) (by omega) (by omega)
   ·
    have hc148 := of_decide_eq_false hc148
    refine Lz ?_
    refine Lz ?_
    refine Lz ?_
    refine Ly y_pick_false ?_
    refine WL.done ?_
    refine Kcond (ht := fun h => by cases h) (hf := fun _ => ?_)
    refine WK.skip ?_
    refine WK.seq ?_
    refine WK.region ?_
    refine Ly y_move ?_
    refine Ly y_assign ?_
    refine WL.done ?_
    refine WK.seq ?_
    refine WK.seq ?_
    refine WK.region ?_
    refine Ly y_move ?_
    refine Ly y_move ?_
    refine Ly y_eql ?_
    refine WL.done ?_
    refine Kcond (ht := fun hc157 => ?_) (hf := fun hc157 => ?_)
    ·
     have hc157 := of_decide_eq_true hc157
     refine WK.region ?_
     refine Ly y_move ?_
     refine Ly y_assign ?_
     refine WL.done ?_
     refine WK.seq ?_
     refine WK.region ?_
     refine Ly y_move ?_
     refine Ly y_neq ?_
     refine Ly y_move ?_
     refine Lyg y_move ?_
     refine Lyg y_neq ?_
     refine Ly y_pick_false ?_
     refine Ly y_move ?_
     refine Lyg y_move ?_
     refine Lyg y_neq ?_
     refine Ly y_pick_false ?_
     refine Ly y_move ?_
     refine Lyg y_move ?_
     refine Lyg y_move ?_
     refine Lyg y_neq ?_
     refine Ly y_pick_false ?_
     refine Ly y_move ?_
     refine WL.split (d := 174) (by rfl) (fun hc174 => ?_) (fun hc174 => ?_)
     ·
      have hc174 := of_decide_eq_true hc174
      exfalso
      have h := fA k (by omega) (by omega)
      first | (rw [if_pos ⟨by omega, by omega⟩] at h; exact hc174 h) | (rw [if_neg (by omega)] at h; exact hc174 h)
     ·
      have hc174 := of_decide_eq_false hc174
      refine Lyg y_move ?_
      refine Lyg y_move ?_
      refine Lyg y_neq ?_
      refine Ly y_pick_false ?_
      refine WL.done ?_
      refine Kcond (ht := fun hc178 => ?_) (hf := fun hc178 => ?_)
      ·
       have hc178 := of_decide_eq_true hc178
       exfalso
       have h := fB k (by omega)
       first | (rw [if_pos (by omega)] at h; exact hc178 h) | (rw [if_neg (by omega)] at h; exact hc178 h)
      ·
       have hc178 := of_decide_eq_false hc178
       refine WK.skip ?_
       refine WK.endBlock ?_
       refine WK.region ?_
       refine Ly y_move ?_
       refine Ly y_add ?_
       refine Ly y_assign ?_
       refine WL.done ?_
       exact Knext hN (n + 1) (by omega) (by omega)
    ·
     have hc157 := of_decide_eq_false hc157
     refine WK.skip ?_
     refine WK.seq ?_
     refine WK.region ?_
     refine Ly y_move ?_
     refine Ly y_neq ?_
     refine Ly y_move ?_
     refine Lyg y_move ?_
     refine Lyg y_neq ?_
     refine Ly y_pick_false ?_
     refine Ly y_move ?_
     refine Lyg y_move ?_
     refine Lyg y_neq ?_
     refine Ly y_pick_false ?_
     refine Ly y_move ?_
     refine Lyg y_move ?_
     refine Lyg y_move ?_
     refine Lyg y_neq ?_
     refine Ly y_pick_false ?_
     refine Ly y_move ?_
     refine WL.split (d := 174) (by rfl) (fun hc174 => ?_) (fun hc174 => ?_)
     ·
      have hc174 := of_decide_eq_true hc174
      exfalso
      have h := fA k (by omega) (by omega)
      first | (rw [if_pos ⟨by omega, by omega⟩] at h; exact hc174 h) | (rw [if_neg (by omega)] at h; exact hc174 h)
     ·
      have hc174 := of_decide_eq_false hc174
      refine Lyg y_move ?_
      refine Lyg y_move ?_
      refine Lyg y_neq ?_
      refine Ly y_pick_false ?_
      refine WL.done ?_
      refine Kcond (ht := fun hc178 => ?_) (hf := fun hc178 => ?_)
      ·
       have hc178 := of_decide_eq_true hc178
       exfalso
       have h := fB k (by omega)
       first | (rw [if_pos (by omega)] at h; exact hc178 h) | (rw [if_neg (by omega)] at h; exact hc178 h)
      ·
       have hc178 := of_decide_eq_false hc178
       refine WK.skip ?_
       refine WK.endBlock ?_
       refine WK.region ?_
       refine Ly y_move ?_
       refine Ly y_add ?_
       refine Ly y_assign ?_
       refine WL.done ?_
       exact Knext hN (n + 1) (by omega) (by omega)
  ·
   intro J122
   refine Kcond (ht := fun hc122 => ?_) (hf := fun hc122 => ?_)
   ·
    have hc122 := of_decide_eq_true hc122
    refine WK.region ?_
    refine Ly y_move ?_
    refine Le (e_call (by exact Tryz.call10) (t := around_spec account 1000 h_account (by omega))) ?_
    rintro _ -
    have h124 := aroundM_range account 1000 (by omega)
    try dsimp only
    refine Ly y_add ?_
    refine Ly y_assign ?_
    refine WL.done ?_
    exact Kgoto J122 (45 + aroundM account 1000) (by omega)
   ·
    have hc122 := of_decide_eq_false hc122
    refine WK.skip ?_
    exact Kgoto J122 (n : Int) (by omega)
 ·
  have hc117 := of_decide_eq_false hc117
  refine WK.exit ?_
  repeat (first | refine XQ.then_ ?_ | refine XQ.block (by rfl) ?_)
  refine XQ.here ?_
  refine WK.seq ?_
  refine WK.region ?_
  refine Ly y_move ?_
  refine Ly y_move ?_
  refine Le (e_call (by exact Tryz.call15) (t := find_spec true mad G.length mcap G (by omega) f)) ?_
  rintro _ -
  rw [if_pos ⟨vG, by omega, by omega⟩]
  have hlo := gG.fnd (by decide) f
  obtain ⟨o, ho⟩ : ∃ o, findM G f = o := ⟨_, rfl⟩
  rw [ho] at hlo ⊢
  have okV : JoinOK D 7 o := ⟨vD, by decide, by omega⟩
  have okY : SplitOK G f t o := ⟨vG, by omega, by omega, by omega, by omega⟩
  have hVY := split_join gG (a := f) (b := t) (o := o) hlo ht.1
  rw [hD] at hVY
  have hYl := split_len f t o G
  try dsimp only
  refine Ly y_move ?_
  refine Ly y_extract ?_
  refine Ly y_extract ?_
  refine Ly y_assign ?_
  refine Ly y_assign ?_
  refine WL.done ?_
  refine WK.seq ?_
  refine WK.region ?_
  refine Ly y_move ?_
  refine Ly y_move ?_
  refine Le (e_call (by exact Tryz.call19) (t := join_spec true dad D.length dcap D (by omega) 7 o)) ?_
  rintro x188 hx188
  obtain ⟨⟨vad, vcap⟩, rfl⟩ := Option.isSome_iff_exists.1 (hx188.2 okV)
  dsimp only
  rw [hVY]
  try dsimp only
  refine Ly y_move ?_
  refine Ly y_extract ?_
  refine Ly y_extract ?_
  refine Ly y_assign ?_
  refine Ly y_assign ?_
  refine WL.done ?_
  refine WK.seq ?_
  refine WK.region ?_
  refine Ly y_move ?_
  refine Ly y_move ?_
  refine Ly y_move ?_
  refine Ly y_move ?_
  refine Le (e_call (by exact Tryz.call18) (t := split_spec true mad G.length mcap G (by omega) f t o)) ?_
  rintro x196 hx196
  obtain ⟨⟨yad, ycap⟩, rfl⟩ := Option.isSome_iff_exists.1 (hx196.2 okY)
  dsimp only
  try dsimp only
  refine Ly y_move ?_
  refine Ly y_extract ?_
  refine Ly y_extract ?_
  refine Ly y_assign ?_
  refine Ly y_assign ?_
  refine WL.done ?_
  refine WK.seq ?_
  refine WK.region ?_
  refine Ly y_move ?_
  refine Ly y_eql ?_
  refine Ly y_move ?_
  refine Lyg y_move ?_
  refine Lyg y_eql ?_
  refine Ly y_pick_true ?_
  refine Ly y_move ?_
  refine Lyg y_move ?_
  refine Lyg y_eql ?_
  refine Ly y_pick_true ?_
  refine Ly y_move ?_
  refine Lyg y_move ?_
  refine Lyg y_move ?_
  refine Leg (e_call (by exact Tryz.call23) (t := equal_spec true true vad yad _ vcap _ ycap (changedM (splitRw f t o) G) (changedM (splitRw f t o) G) (by omega))) ?_
  rintro _ -
  rw [decide_eq_true rfl]
  try dsimp only
  refine Ly y_pick_true ?_
  refine Ly y_move ?_
  refine Leg (e_call (by exact Tryz.call17) (t := lives_spec)) ?_
  rintro _ -
  try dsimp only
  refine Ly y_pick_true ?_
  refine Ly y_assign ?_
  refine WL.done ?_
  refine WK.ret ?_
  repeat (first | refine RQ.block ?_ | refine RQ.then_ ?_)
  refine RQ.body (results1 (by rfl) (by rfl)) (fun w s => ?_)
  exact ⟨(), trivial, rfl, s.toCs (by repeat (first | exact SelL.nil | exact SelL.self | apply SelL.cons | exact Sel.here | apply Sel.there | apply SelL.skip))⟩
end Go.Proofs.YtkakfmcjiabjjaaGreatDoor
