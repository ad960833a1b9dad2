import Derived.Test.YtnknclbiamhnaaaChanB
import Derived.Test.YtnknclbiamhnaaaSepI
namespace Go.Proofs.Ytnknclbiamhnaaa
set_option linter.unusedVariables false
set_option linter.unusedSimpArgs false
set_option linter.unusedSectionVars false
open Go Go.Sep
attribute [local irreducible] row sl mapO held exL allR byt mapI slr endL
/-- Send, the length apart. -/
theorem send_specL (q : Nat) (e : EndM) (p : Bool) (ad : Option Addr) (len cap : Nat) (bs : List UInt8) (hl : bs.length = len) (hbs : len ≤ 140737488355328) :
    Triple Try.prog 13 #[.pointer (some ⟨q, 0, none⟩), .slice ad len cap] [endR q e, sl p 5 1 ad len cap (bs.map bv)] (Unit) (fun _ => True) (fun _ => .int .i64 (sendM e bs).1) (fun _ => [endR q (sendM e bs).2, sl p 5 1 ad len cap (bs.map bv)]) := by
  subst hl
  exact send_spec q e p ad cap bs hbs

/-- An end with m empty messages waiting, k acknowledged. -/
def WE (w : Int) (m : Nat) (k : Int) : EndM := ⟨w, List.replicate m [], k, 0, [], false⟩
theorem WE_len (w : Int) (m : Nat) (k : Int) : (WE w m k).waiting.length = m := by simp [WE]
theorem WE_ok {w : Int} {m : Nat} {k : Int} (hw : 1 ≤ w ∧ w ≤ 16) (hm : m ≤ 1000) (hk : 0 ≤ k ∧ k ≤ 1000) : EndOk (WE w m k) :=
  ⟨hw, ⟨hk.1, by simp only [WE]; omega⟩, ⟨by simp [WE], by simp [WE]⟩, by rw [WE_len]; exact hm, fun b hb => by rw [List.eq_of_mem_replicate hb]; simp⟩
theorem WE_inok {w : Int} {m : Nat} {k : Int} (hm : m ≤ 1000) (hk : 0 ≤ k ∧ k ≤ 1000) : InOk (WE w m k) :=
  ⟨⟨hk.1, by simp only [WE]; omega⟩, ⟨by simp [WE], by simp [WE]⟩, by rw [WE_len]; exact hm, by simp [WE]⟩
theorem sendW (w : Int) (m : Nat) : sendM (WE w m 0) [] = (if m < 1000 then 0 else 4, WE w (if m < 1000 then m + 1 else m) 0) := by
  unfold sendM
  by_cases h : m < 1000
  · rw [if_neg (by rw [WE_len]; simp; omega), if_pos h, if_pos h]
    simp [WE, List.replicate_succ']
  · rw [if_pos (by rw [WE_len]; right; omega), if_neg h, if_neg h]
theorem outW (w : Int) (m : Nat) (k : Int) : outM (WE w m k) = (outL (WE w m k), WE w m k) := by
  unfold outM
  rw [if_neg (by simp [WE])]
  rfl
theorem outL_len (e : EndM) : (outL e).length = outN e := by
  unfold outL
  rw [pkts_length, List.length_take]
  unfold outN; omega
theorem outW_len {w : Int} {m : Nat} {k : Int} (hw : 1 ≤ w ∧ w ≤ 16) : ((outL (WE w m k)).length : Int) = min (m : Int) w := by
  rw [outL_len]
  unfold outN
  rw [WE_len]
  simp only [WE]
  omega
theorem pkts_get (a d : Int) : ∀ (bs : List (List UInt8)) (i j : Nat), (pkts a d i bs)[j]? = (bs[j]?).map fun b => ⟨a + ((i + j : Nat) : Int) + 1, d, b⟩
  | [], _, _ => by simp [pkts]
  | b :: bs, i, 0 => by simp [pkts]
  | b :: bs, i, j + 1 => by
    simp only [pkts, List.getElem?_cons_succ]
    rw [pkts_get a d bs (i + 1) j]
    rw [show i + 1 + j = i + (j + 1) by omega]
theorem outW_get {w : Int} {m : Nat} {k : Int} {j : Nat} (hj : j < (outL (WE w m k)).length) : (outL (WE w m k))[j]? = some ⟨k + j + 1, 0, []⟩ := by
  rw [outL_len] at hj
  unfold outL
  rw [pkts_get, List.getElem?_take, if_pos hj]
  unfold outN at hj
  rw [WE_len] at hj
  simp [WE, List.getElem?_replicate]
  omega
theorem inW_beyond {w : Int} {m : Nat} : inM (WE w m 0) ⟨0, (m : Int) + 1, []⟩ = ([], WE w m 0) := by
  unfold inM
  rw [if_pos]
  right; left
  rw [WE_len]
  simp only [WE]; omega
theorem inW {w : Int} {m k : Nat} (hk : k ≤ m) : inM (WE w m 0) ⟨0, (k : Int), []⟩ = ([], WE w (m - k) k) := by
  unfold inM
  rw [if_neg, if_pos rfl]
  · unfold ackM
    by_cases h : 0 < k
    · rw [if_pos (by simp only [WE]; omega)]
      simp only [WE, List.drop_replicate]
      rw [show ((k : Int) - 0).toNat = k by omega]
    · rw [if_neg (by simp only [WE]; omega)]
      obtain rfl : k = 0 := by omega
      simp
  · rintro (h | h | h)
    · simp [validB] at h
    · rw [WE_len] at h
      simp only [WE] at h; omega
    · simp only [WE] at h; omega
set_option maxRecDepth 20000 in
set_option maxHeartbeats 2000000 in
theorem window_spec (window many ack : Int) (h1 : -9223372036854775808 ≤ many ∧ many ≤ 9223372036854775807) (h2 : -9223372036854775808 ≤ ack ∧ ack ≤ 9223372036854775807) :
    Triple Try.prog 6 #[.int .i64 window, .int .i64 many, .int .i64 ack] [] (Unit) (fun _ => True) (fun _ => .bool true) (fun _ => []) := by
  refine Triple.of_body (args := [.int .i64 window, .int .i64 many, .int .i64 ack]) Try.func6 rfl Try.ntmps6 (by simp) (fun g F => ?_)
  dsimp only [numb, List.cons_append, List.nil_append]
  have hn := aroundM_range many 1003 (by omega)
  refine WK.seq ?_
  refine WK.region ?_
  refine WL.yld (wanted_plain (by rfl)) (yld_assign (by rfl)) (by rfl) (by decide) ?_
  refine WL.done ?_
  refine WK.seq ?_
  refine WK.region ?_
  refine WL.yld (wanted_plain (by rfl)) (yld_move (by rfl)) (by rfl) (by decide) ?_
  refine WL.eff (wanted_plain (by rfl)) (eff_call (by exact Try.call25) (by repeat (first | exact Evs.nil | apply Evs.cons | rfl)) (by repeat (first | exact SelL.nil | exact SelL.self | apply SelL.cons | exact Sel.here | apply Sel.there | apply SelL.skip)) (new_spec window)) (by rfl) (by decide) ?_
  rintro x18 hx18
  try dsimp only
  rcases x18 with _ | q18
  · skip
    have hw : ¬ (1 ≤ window ∧ window ≤ 16) := fun h => by have := hx18.2 h; simp at this
    dsimp only
    refine WL.yld (wanted_plain (by rfl)) (yld_move (by rfl)) (by rfl) (by decide) ?_
    refine WL.yld (wanted_plain (by rfl)) (yld_extract (by rfl) (by rfl)) (by rfl) (by decide) ?_
    refine WL.yld (wanted_plain (by rfl)) (yld_extract (by rfl) (by rfl)) (by rfl) (by decide) ?_
    refine WL.yld (wanted_plain (by rfl)) (yld_assign (by rfl)) (by rfl) (by decide) ?_
    refine WL.yld (wanted_plain (by rfl)) (yld_assign (by rfl)) (by rfl) (by decide) ?_
    refine WL.done ?_
    refine WK.seq ?_
    refine WK.seq ?_
    refine WK.region ?_
    refine WL.yld (wanted_plain (by rfl)) (yld_move (by rfl)) (by rfl) (by decide) ?_
    refine WL.yld (wanted_plain (by rfl)) (yld_lss (by rfl) (by rfl)) (by rfl) (by decide) ?_
    refine WL.yld (wanted_plain (by rfl)) (yld_move (by rfl)) (by rfl) (by decide) ?_
    refine WL.split (d := 23) (by rfl) (fun hc23 => ?_) (fun hc23 => ?_)
    · skip
      have hc23 := of_decide_eq_true hc23
      refine WL.skip (unwanted_some (by rfl) (by rfl) (by rfl) (by rfl)) (by rfl) (by decide) ?_
      refine WL.skip (unwanted_some (by rfl) (by rfl) (by rfl) (by rfl)) (by rfl) (by decide) ?_
      refine WL.yld (wanted_plain (by rfl)) (yld_pick_true (by rfl) (by rfl)) (by rfl) (by decide) ?_
      refine WL.done ?_
      refine WK.cond (by rfl) (fun _ => ?_) (fun h => by cases h)
      refine WK.seq ?_
      refine WK.region ?_
      refine WL.yld (wanted_plain (by rfl)) (yld_move (by rfl)) (by rfl) (by decide) ?_
      refine WL.yld (wanted_plain (by rfl)) (yld_eqlPtr0 (by rfl) (by rfl) (by exact Try.runUnderlying33)) (by rfl) (by decide) ?_
      refine WL.yld (wanted_plain (by rfl)) (yld_move (by rfl)) (by rfl) (by decide) ?_
      refine WL.yld (wanted_some (by rfl) (by rfl) (by rfl)) (yld_move (by rfl)) (by rfl) (by decide) ?_
      refine WL.yld (wanted_some (by rfl) (by rfl) (by rfl)) (yld_eql (by rfl) (by rfl)) (by rfl) (by decide) ?_
      refine WL.yld (wanted_plain (by rfl)) (yld_pick_true (by rfl) (by rfl)) (by rfl) (by decide) ?_
      refine WL.yld (wanted_plain (by rfl)) (yld_move (by rfl)) (by rfl) (by decide) ?_
      refine WL.split (d := 33) (by rfl) (fun hc33 => ?_) (fun hc33 => ?_)
      · skip
        have hc33 := of_decide_eq_true hc33
        refine WL.eff (wanted_some (by rfl) (by rfl) (by rfl)) (eff_call (by exact Try.call23) (by repeat (first | exact Evs.nil | apply Evs.cons | rfl)) (by repeat (first | exact SelL.nil | exact SelL.self | apply SelL.cons | exact Sel.here | apply Sel.there | apply SelL.skip)) lives_spec) (by rfl) (by decide) ?_
        rintro _ -
        try dsimp only
        refine WL.yld (wanted_plain (by rfl)) (yld_pick_true (by rfl) (by rfl)) (by rfl) (by decide) ?_
        refine WL.yld (wanted_plain (by rfl)) (yld_assign (by rfl)) (by rfl) (by decide) ?_
        refine WL.done ?_
        refine WK.ret ?_
        repeat (first | refine RQ.block ?_ | refine RQ.then_ ?_)
        refine RQ.body (results1 (by rfl) (by rfl)) (fun w s => ?_)
        exact ⟨(), trivial, rfl, s.toCs (by repeat (first | exact SelL.nil | exact SelL.self | apply SelL.cons | exact Sel.here | apply Sel.there | apply SelL.skip))⟩
      · skip
        have hc33 := of_decide_eq_false hc33
        exact absurd rfl hc33
    · skip
      have hc23 := of_decide_eq_false hc23
      refine WL.yld (wanted_some (by rfl) (by rfl) (by rfl)) (yld_move (by rfl)) (by rfl) (by decide) ?_
      refine WL.yld (wanted_some (by rfl) (by rfl) (by rfl)) (yld_gtr (by rfl) (by rfl)) (by rfl) (by decide) ?_
      refine WL.yld (wanted_plain (by rfl)) (yld_pick_false (by rfl) (by rfl)) (by rfl) (by decide) ?_
      refine WL.done ?_
      refine WK.cond (by rfl) (fun hc26 => ?_) (fun hc26 => ?_)
      · skip
        have hc26 := of_decide_eq_true hc26
        refine WK.seq ?_
        refine WK.region ?_
        refine WL.yld (wanted_plain (by rfl)) (yld_move (by rfl)) (by rfl) (by decide) ?_
        refine WL.yld (wanted_plain (by rfl)) (yld_eqlPtr0 (by rfl) (by rfl) (by exact Try.runUnderlying33)) (by rfl) (by decide) ?_
        refine WL.yld (wanted_plain (by rfl)) (yld_move (by rfl)) (by rfl) (by decide) ?_
        refine WL.yld (wanted_some (by rfl) (by rfl) (by rfl)) (yld_move (by rfl)) (by rfl) (by decide) ?_
        refine WL.yld (wanted_some (by rfl) (by rfl) (by rfl)) (yld_eql (by rfl) (by rfl)) (by rfl) (by decide) ?_
        refine WL.yld (wanted_plain (by rfl)) (yld_pick_true (by rfl) (by rfl)) (by rfl) (by decide) ?_
        refine WL.yld (wanted_plain (by rfl)) (yld_move (by rfl)) (by rfl) (by decide) ?_
        refine WL.split (d := 33) (by rfl) (fun hc33 => ?_) (fun hc33 => ?_)
        · skip
          have hc33 := of_decide_eq_true hc33
          refine WL.eff (wanted_some (by rfl) (by rfl) (by rfl)) (eff_call (by exact Try.call23) (by repeat (first | exact Evs.nil | apply Evs.cons | rfl)) (by repeat (first | exact SelL.nil | exact SelL.self | apply SelL.cons | exact Sel.here | apply Sel.there | apply SelL.skip)) lives_spec) (by rfl) (by decide) ?_
          rintro _ -
          try dsimp only
          refine WL.yld (wanted_plain (by rfl)) (yld_pick_true (by rfl) (by rfl)) (by rfl) (by decide) ?_
          refine WL.yld (wanted_plain (by rfl)) (yld_assign (by rfl)) (by rfl) (by decide) ?_
          refine WL.done ?_
          refine WK.ret ?_
          repeat (first | refine RQ.block ?_ | refine RQ.then_ ?_)
          refine RQ.body (results1 (by rfl) (by rfl)) (fun w s => ?_)
          exact ⟨(), trivial, rfl, s.toCs (by repeat (first | exact SelL.nil | exact SelL.self | apply SelL.cons | exact Sel.here | apply Sel.there | apply SelL.skip))⟩
        · skip
          have hc33 := of_decide_eq_false hc33
          exact absurd rfl hc33
      · skip
        have hc26 := of_decide_eq_false hc26
        omega
  · skip
    have hw : 1 ≤ window ∧ window ≤ 16 := hx18.1 rfl
    have hwe : newE window = WE window 0 0 := rfl
    dsimp only
    rw [hwe]
    refine WL.yld (wanted_plain (by rfl)) (yld_move (by rfl)) (by rfl) (by decide) ?_
    refine WL.yld (wanted_plain (by rfl)) (yld_extract (by rfl) (by rfl)) (by rfl) (by decide) ?_
    refine WL.yld (wanted_plain (by rfl)) (yld_extract (by rfl) (by rfl)) (by rfl) (by decide) ?_
    refine WL.yld (wanted_plain (by rfl)) (yld_assign (by rfl)) (by rfl) (by decide) ?_
    refine WL.yld (wanted_plain (by rfl)) (yld_assign (by rfl)) (by rfl) (by decide) ?_
    refine WL.done ?_
    refine WK.seq ?_
    refine WK.seq ?_
    refine WK.region ?_
    refine WL.yld (wanted_plain (by rfl)) (yld_move (by rfl)) (by rfl) (by decide) ?_
    refine WL.yld (wanted_plain (by rfl)) (yld_lss (by rfl) (by rfl)) (by rfl) (by decide) ?_
    refine WL.yld (wanted_plain (by rfl)) (yld_move (by rfl)) (by rfl) (by decide) ?_
    refine WL.split (d := 23) (by rfl) (fun hc23 => ?_) (fun hc23 => ?_)
    · skip
      have hc23 := of_decide_eq_true hc23
      omega
    · skip
      have hc23 := of_decide_eq_false hc23
      refine WL.yld (wanted_some (by rfl) (by rfl) (by rfl)) (yld_move (by rfl)) (by rfl) (by decide) ?_
      refine WL.yld (wanted_some (by rfl) (by rfl) (by rfl)) (yld_gtr (by rfl) (by rfl)) (by rfl) (by decide) ?_
      refine WL.yld (wanted_plain (by rfl)) (yld_pick_false (by rfl) (by rfl)) (by rfl) (by decide) ?_
      refine WL.done ?_
      refine WK.cond (by rfl) (fun hc26 => ?_) (fun hc26 => ?_)
      · skip
        have hc26 := of_decide_eq_true hc26
        omega
      · skip
        have hc26 := of_decide_eq_false hc26
        refine WK.skip ?_
        refine WK.seq ?_
        refine WK.seq ?_
        refine WK.region ?_
        refine WL.yld (wanted_plain (by rfl)) (yld_move (by rfl)) (by rfl) (by decide) ?_
        refine WL.yld (wanted_plain (by rfl)) (yld_eqlPtr (by rfl) (by rfl) (by exact Try.runUnderlying33)) (by rfl) (by decide) ?_
        refine WL.yld (wanted_plain (by rfl)) (yld_move (by rfl)) (by rfl) (by decide) ?_
        refine WL.yld (wanted_some (by rfl) (by rfl) (by rfl)) (yld_move (by rfl)) (by rfl) (by decide) ?_
        refine WL.yld (wanted_some (by rfl) (by rfl) (by rfl)) (yld_neq (by rfl) (by rfl)) (by rfl) (by decide) ?_
        refine WL.yld (wanted_plain (by rfl)) (yld_pick_false (by rfl) (by rfl)) (by rfl) (by decide) ?_
        refine WL.done ?_
        refine WK.cond (by rfl) (fun hc41 => ?_) (fun hc41 => ?_)
        · skip
          have hc41 := of_decide_eq_true hc41
          first | omega | exact absurd rfl hc41 | (simp at hc41; done) | (exact absurd hc41 (by decide))
        · skip
          have hc41 := of_decide_eq_false hc41
          refine WK.skip ?_
          refine WK.seq ?_
          refine WK.region ?_
          refine WL.yld (wanted_plain (by rfl)) (yld_move (by rfl)) (by rfl) (by decide) ?_
          refine WL.eff (wanted_plain (by rfl)) (eff_call (by exact Try.call12) (by repeat (first | exact Evs.nil | apply Evs.cons | rfl)) (by repeat (first | exact SelL.nil | exact SelL.self | apply SelL.cons | exact Sel.here | apply Sel.there | apply SelL.skip)) (around_spec many 1003 h1 (by omega))) (by rfl) (by decide) ?_
          rintro _ -
          generalize aroundM many 1003 = nn at hn ⊢
          try dsimp only
          refine WL.yld (wanted_plain (by rfl)) (yld_assign (by rfl)) (by rfl) (by decide) ?_
          refine WL.done ?_
          refine WK.seq ?_
          refine WK.seq ?_
          refine WK.region ?_
          refine WL.yld (wanted_plain (by rfl)) (yld_assign (by rfl)) (by rfl) (by decide) ?_
          refine WL.done ?_
          refine WK.block ?_
          refine WK.loop (ι := Nat) (fun i => i ≤ nn.toNat) (fun i => [(0, .int .i64 window), (2, .int .i64 ack), (7, .pointer (some ⟨q18, 0, none⟩)), (9, .int .i64 nn), (10, .int .i64 (i : Int))]) (fun i => endR q18 (WE window (min i 1000) 0) :: F) (fun i => nn.toNat - i) (0) (Nat.zero_le _) (by repeat (first | exact KK.nil | refine KK.cons (by first | rfl | (simp; done)) ?_)) (by repeat (first | exact SelL.nil | exact SelL.self | apply SelL.cons | exact Sel.here | apply Sel.there | apply SelL.skip)) ?_
          rintro i hi N hN
          refine WK.seq ?_
          refine WK.seq ?_
          refine WK.region ?_
          refine WL.yld (wanted_plain (by rfl)) (yld_move (by rfl)) (by rfl) (by decide) ?_
          refine WL.yld (wanted_plain (by rfl)) (yld_move (by rfl)) (by rfl) (by decide) ?_
          refine WL.yld (wanted_plain (by rfl)) (yld_lss (by rfl) (by rfl)) (by rfl) (by decide) ?_
          refine WL.done ?_
          refine WK.cond (by rfl) (fun hc46 => ?_) (fun hc46 => ?_)
          · skip
            have hc46 := of_decide_eq_true hc46
            refine WK.skip ?_
            refine WK.seq ?_
            refine WK.block ?_
            refine WK.seq ?_
            refine WK.region ?_
            refine WL.yld (wanted_plain (by rfl)) (yld_move (by rfl)) (by rfl) (by decide) ?_
            refine WL.sat (fun w s => s.nilSl true 5 1) ?_
            refine WL.eff (wanted_plain (by rfl)) (eff_call (by exact Try.call13) (by repeat (first | exact Evs.nil | apply Evs.cons | rfl)) (by repeat (first | exact SelL.nil | exact SelL.self | apply SelL.cons | exact Sel.here | apply Sel.there | apply SelL.skip)) (send_spec q18 (WE window (min i 1000) 0) true none 0 [] (by decide))) (by rfl) (by decide) ?_
            rintro _ -
            rw [sendW]
            try dsimp only
            refine WL.yld (wanted_plain (by rfl)) (yld_eql (by rfl) (by rfl)) (by rfl) (by decide) ?_
            refine WL.yld (wanted_plain (by rfl)) (yld_move (by rfl)) (by rfl) (by decide) ?_
            refine WL.yld (wanted_plain (by rfl)) (yld_lss (by rfl) (by rfl)) (by rfl) (by decide) ?_
            refine WL.yld (wanted_plain (by rfl)) (yld_boolNeq (by rfl) (by rfl) (by exact Try.runUnderlying4)) (by rfl) (by decide) ?_
            refine WL.done ?_
            refine WK.cond (by rfl) (fun hc54 => ?_) (fun hc54 => ?_)
            · skip
              exfalso
              revert hc54
              by_cases h : i < 1000 <;> simp [h] <;> omega
            · skip
              refine WK.skip ?_
              refine WK.endBlock ?_
              refine WK.region ?_
              refine WL.yld (wanted_plain (by rfl)) (yld_move (by rfl)) (by rfl) (by decide) ?_
              refine WL.yld (wanted_plain (by rfl)) (yld_add (by rfl) (by rfl) (by first | exact w64 (by omega) (by omega) | rfl)) (by rfl) (by decide) ?_
              refine WL.yld (wanted_plain (by rfl)) (yld_assign (by rfl)) (by rfl) (by decide) ?_
              refine WL.done ?_
              rw [show (if min i 1000 < 1000 then min i 1000 + 1 else min i 1000) = min (i + 1) 1000 from by split <;> omega]
              exact WK.next hN (i + 1) (by omega) (by omega) (by repeat (first | exact KK.nil | refine KK.cons (by first | rfl | (simp; done)) ?_)) (by repeat (first | exact SelL.nil | exact SelL.self | apply SelL.cons | exact Sel.here | apply Sel.there | apply SelL.skip))
          · skip
            have hc46 := of_decide_eq_false hc46
            obtain rfl : i = nn.toNat := by omega
            refine WK.exit ?_
            repeat (first | refine XQ.then_ ?_ | refine XQ.block (by rfl) ?_)
            refine XQ.here ?_
            refine WK.seq ?_
            refine WK.region ?_
            refine WL.yld (wanted_plain (by rfl)) (yld_move (by rfl)) (by rfl) (by decide) ?_
            refine WL.yld (wanted_plain (by rfl)) (yld_min (by rfl) (by rfl)) (by rfl) (by decide) ?_
            refine WL.yld (wanted_plain (by rfl)) (yld_assign (by rfl)) (by rfl) (by decide) ?_
            refine WL.done ?_
            have hm : 0 ≤ min nn 1000 ∧ min nn 1000 ≤ 1000 := by omega
            have hmn : min nn.toNat 1000 = (min nn 1000).toNat := by omega
            rw [hmn]
            generalize min nn 1000 = m at hm hmn ⊢
            refine WK.seq ?_
            refine WK.region ?_
            refine WL.yld (wanted_plain (by rfl)) (yld_move (by rfl)) (by rfl) (by decide) ?_
            refine WL.yld (wanted_plain (by rfl)) (yld_move (by rfl)) (by rfl) (by decide) ?_
            refine WL.yld (wanted_plain (by rfl)) (yld_add (by rfl) (by rfl) (by first | exact w64 (by omega) (by omega) | rfl)) (by rfl) (by decide) ?_
            refine WL.eff (wanted_plain (by rfl)) (eff_call (by exact Try.call12) (by repeat (first | exact Evs.nil | apply Evs.cons | rfl)) (by repeat (first | exact SelL.nil | exact SelL.self | apply SelL.cons | exact Sel.here | apply Sel.there | apply SelL.skip)) (around_spec ack (m + 1) h2 (by omega))) (by rfl) (by decide) ?_
            rintro _ -
            have hk := aroundM_range ack (m + 1) (by omega)
            generalize aroundM ack (m + 1) = k at hk ⊢
            try dsimp only
            refine WL.yld (wanted_plain (by rfl)) (yld_assign (by rfl)) (by rfl) (by decide) ?_
            refine WL.done ?_
            refine WK.seq ?_
            refine WK.seq ?_
            refine WK.region ?_
            refine WL.yld (wanted_plain (by rfl)) (yld_assign (by rfl)) (by rfl) (by decide) ?_
            refine WL.done ?_
            refine WK.block ?_
            refine WK.loop (ι := Nat) (fun i => True) (fun i => [(0, .int .i64 window), (7, .pointer (some ⟨q18, 0, none⟩)), (9, .int .i64 m), (11, .int .i64 k), (12, .int .i64 (i : Int))]) (fun i => endR q18 (WE window m.toNat 0) :: F) (fun i => 2 - i) (0) (trivial) (by repeat (first | exact KK.nil | refine KK.cons (by first | rfl | (simp; done)) ?_)) (by repeat (first | exact SelL.nil | exact SelL.self | apply SelL.cons | exact Sel.here | apply Sel.there | apply SelL.skip)) ?_
            rintro i - N hN
            refine WK.seq ?_
            refine WK.seq ?_
            refine WK.region ?_
            refine WL.yld (wanted_plain (by rfl)) (yld_move (by rfl)) (by rfl) (by decide) ?_
            refine WL.yld (wanted_plain (by rfl)) (yld_lss (by rfl) (by rfl)) (by rfl) (by decide) ?_
            refine WL.done ?_
            refine WK.cond (by rfl) (fun hc62 => ?_) (fun hc62 => ?_)
            · skip
              have hc62 := of_decide_eq_true hc62
              refine WK.skip ?_
              refine WK.seq ?_
              refine WK.block ?_
              refine WK.seq ?_
              refine WK.region ?_
              refine WL.yld (wanted_plain (by rfl)) (yld_move (by rfl)) (by rfl) (by decide) ?_
              refine WL.eff (wanted_plain (by rfl)) (eff_call (by exact Try.call15) (by repeat (first | exact Evs.nil | apply Evs.cons | rfl)) (by repeat (first | exact SelL.nil | exact SelL.self | apply SelL.cons | exact Sel.here | apply Sel.there | apply SelL.skip)) (out_specR q18 (WE window m.toNat 0) (WE_ok hw (by omega) (by omega)))) (by rfl) (by decide) ?_
              rintro ⟨ad66, len66, cap66, vs66⟩ ⟨hl66, hv66⟩
              rw [outW] at hl66 ⊢
              dsimp only at hl66 hv66 ⊢
              have hl66' := outW_len (w := window) (m := m.toNat) (k := 0) hw
              try dsimp only
              refine WL.yld (wanted_plain (by rfl)) (yld_assign (by rfl)) (by rfl) (by decide) ?_
              refine WL.done ?_
              refine WK.seq ?_
              refine WK.seq ?_
              refine WK.region ?_
              refine WL.yld (wanted_plain (by rfl)) (yld_move (by rfl)) (by rfl) (by decide) ?_
              refine WL.yld (wanted_plain (by rfl)) (yld_len (by rfl) (by exact Try.runUnderlying35)) (by rfl) (by decide) ?_
              refine WL.yld (wanted_plain (by rfl)) (yld_move (by rfl)) (by rfl) (by decide) ?_
              refine WL.yld (wanted_plain (by rfl)) (yld_move (by rfl)) (by rfl) (by decide) ?_
              refine WL.yld (wanted_plain (by rfl)) (yld_min (by rfl) (by rfl)) (by rfl) (by decide) ?_
              refine WL.yld (wanted_plain (by rfl)) (yld_neq (by rfl) (by rfl)) (by rfl) (by decide) ?_
              refine WL.done ?_
              refine WK.cond (by rfl) (fun hc72 => ?_) (fun hc72 => ?_)
              · skip
                have hc72 := of_decide_eq_true hc72
                omega
              · skip
                have hc72 := of_decide_eq_false hc72
                refine WK.skip ?_
                refine WK.seq ?_
                refine WK.region ?_
                refine WL.yld (wanted_plain (by rfl)) (yld_assign (by rfl)) (by rfl) (by decide) ?_
                refine WL.done ?_
                refine WK.block ?_
                refine WK.loop (ι := Nat) (fun j => j ≤ len66) (fun j => [(0, .int .i64 window), (7, .pointer (some ⟨q18, 0, none⟩)), (9, .int .i64 m), (11, .int .i64 k), (12, .int .i64 (i : Int)), (13, .slice ad66 len66 cap66), (14, .int .i64 (j : Int))]) (fun j => endR q18 (WE window m.toNat 0) :: sl true 44 3 ad66 len66 cap66 (pktC (outL (WE window m.toNat 0)) vs66) :: F) (fun j => len66 - j) (0) (Nat.zero_le _) (by repeat (first | exact KK.nil | refine KK.cons (by first | rfl | (simp; done)) ?_)) (by repeat (first | exact SelL.nil | exact SelL.self | apply SelL.cons | exact Sel.here | apply Sel.there | apply SelL.skip)) ?_
                rintro j hj N2 hN2
                refine WK.seq ?_
                refine WK.seq ?_
                refine WK.region ?_
                refine WL.yld (wanted_plain (by rfl)) (yld_move (by rfl)) (by rfl) (by decide) ?_
                refine WL.yld (wanted_plain (by rfl)) (yld_move (by rfl)) (by rfl) (by decide) ?_
                refine WL.yld (wanted_plain (by rfl)) (yld_len (by rfl) (by exact Try.runUnderlying35)) (by rfl) (by decide) ?_
                refine WL.yld (wanted_plain (by rfl)) (yld_lss (by rfl) (by rfl)) (by rfl) (by decide) ?_
                refine WL.done ?_
                refine WK.cond (by rfl) (fun hc76 => ?_) (fun hc76 => ?_)
                · skip
                  have hc76 := of_decide_eq_true hc76
                  refine WK.skip ?_
                  refine WK.seq ?_
                  refine WK.block ?_
                  refine WK.seq ?_
                  refine WK.region ?_
                  refine WL.yld (wanted_plain (by rfl)) (yld_move (by rfl)) (by rfl) (by decide) ?_
                  refine WL.yld (wanted_plain (by rfl)) (yld_move (by rfl)) (by rfl) (by decide) ?_
                  refine WL.yld (wanted_plain (by rfl)) (yld_indexAddrS (by rfl) (by rfl) (by exact Try.runUnderlying35) (by exact Try.sizeOf44) (by repeat (first | exact .here | apply Sel.there)) (j) (by first | rfl | omega) (by omega) (by omega) (by rfl)) (by rfl) (by decide) ?_
                  refine WL.yld (wanted_plain (by rfl)) (yld_fieldAddrS (by rfl) (by exact Try.runUnderlying44) (by rfl) (by exact Try.sizeOf3) (by rfl) (by rfl)) (by rfl) (by decide) ?_
                  refine WL.yld (wanted_plain (by rfl)) (yld_loadS (by rfl) (by exact Try.isAgg3) (by repeat (first | exact .here | apply Sel.there)) (by exact pktC_seq (j := j) (outW_get (by omega)) (by omega) (by rfl))) (by rfl) (by decide) ?_
                  refine WL.yld (wanted_plain (by rfl)) (yld_move (by rfl)) (by rfl) (by decide) ?_
                  refine WL.yld (wanted_plain (by rfl)) (yld_add (by rfl) (by rfl) (by first | exact w64 (by omega) (by omega) | rfl)) (by rfl) (by decide) ?_
                  refine WL.yld (wanted_plain (by rfl)) (yld_neq (by rfl) (by rfl)) (by rfl) (by decide) ?_
                  refine WL.yld (wanted_plain (by rfl)) (yld_move (by rfl)) (by rfl) (by decide) ?_
                  refine WL.split (d := 87) (by rfl) (fun hc87 => ?_) (fun hc87 => ?_)
                  · skip
                    have hc87 := of_decide_eq_true hc87
                    exfalso; revert hc87; simp
                  · skip
                    have hc87 := of_decide_eq_false hc87
                    refine WL.yld (wanted_some (by rfl) (by rfl) (by rfl)) (yld_move (by rfl)) (by rfl) (by decide) ?_
                    refine WL.yld (wanted_some (by rfl) (by rfl) (by rfl)) (yld_move (by rfl)) (by rfl) (by decide) ?_
                    refine WL.yld (wanted_some (by rfl) (by rfl) (by rfl)) (yld_indexAddrS (by rfl) (by rfl) (by exact Try.runUnderlying35) (by exact Try.sizeOf44) (by repeat (first | exact .here | apply Sel.there)) (j) (by first | rfl | omega) (by omega) (by omega) (by rfl)) (by rfl) (by decide) ?_
                    refine WL.yld (wanted_some (by rfl) (by rfl) (by rfl)) (yld_fieldAddrS (by rfl) (by exact Try.runUnderlying44) (by rfl) (by exact Try.sizeOf3) (by rfl) (by rfl)) (by rfl) (by decide) ?_
                    refine WL.yld (wanted_some (by rfl) (by rfl) (by rfl)) (yld_loadS (by rfl) (by exact Try.isAgg3) (by repeat (first | exact .here | apply Sel.there)) (by exact pktC_ack (j := j) (outW_get (by omega)) (by omega) (by rfl))) (by rfl) (by decide) ?_
                    refine WL.yld (wanted_some (by rfl) (by rfl) (by rfl)) (yld_neq (by rfl) (by rfl)) (by rfl) (by decide) ?_
                    refine WL.yld (wanted_plain (by rfl)) (yld_pick_false (by rfl) (by rfl)) (by rfl) (by decide) ?_
                    refine WL.done ?_
                    refine WK.cond (by rfl) (fun hc94 => ?_) (fun hc94 => ?_)
                    · skip
                      have hc94 := of_decide_eq_true hc94
                      exfalso; revert hc94; simp
                    · skip
                      have hc94 := of_decide_eq_false hc94
                      refine WK.skip ?_
                      refine WK.endBlock ?_
                      refine WK.region ?_
                      refine WL.yld (wanted_plain (by rfl)) (yld_move (by rfl)) (by rfl) (by decide) ?_
                      refine WL.yld (wanted_plain (by rfl)) (yld_add (by rfl) (by rfl) (by first | exact w64 (by omega) (by omega) | rfl)) (by rfl) (by decide) ?_
                      refine WL.yld (wanted_plain (by rfl)) (yld_assign (by rfl)) (by rfl) (by decide) ?_
                      refine WL.done ?_
                      exact WK.next hN2 (j + 1) (by omega) (by omega) (by repeat (first | exact KK.nil | refine KK.cons (by first | rfl | (simp; done)) ?_)) (by repeat (first | exact SelL.nil | exact SelL.self | apply SelL.cons | exact Sel.here | apply Sel.there | apply SelL.skip))
                · skip
                  have hc76 := of_decide_eq_false hc76
                  refine WK.exit ?_
                  repeat (first | refine XQ.then_ ?_ | refine XQ.block (by rfl) ?_)
                  refine XQ.here ?_
                  refine WK.endBlock ?_
                  refine WK.region ?_
                  refine WL.yld (wanted_plain (by rfl)) (yld_move (by rfl)) (by rfl) (by decide) ?_
                  refine WL.yld (wanted_plain (by rfl)) (yld_add (by rfl) (by rfl) (by first | exact w64 (by omega) (by omega) | rfl)) (by rfl) (by decide) ?_
                  refine WL.yld (wanted_plain (by rfl)) (yld_assign (by rfl)) (by rfl) (by decide) ?_
                  refine WL.done ?_
                  exact WK.next hN (i + 1) trivial (by omega) (by repeat (first | exact KK.nil | refine KK.cons (by first | rfl | (simp; done)) ?_)) (by repeat (first | exact SelL.nil | exact SelL.self | apply SelL.cons | exact Sel.here | apply Sel.there | apply SelL.skip))
            · skip
              have hc62 := of_decide_eq_false hc62
              refine WK.exit ?_
              repeat (first | refine XQ.then_ ?_ | refine XQ.block (by rfl) ?_)
              refine XQ.here ?_
              refine WK.seq ?_
              refine WK.region ?_
              refine WL.yld (wanted_plain (by rfl)) (yld_move (by rfl)) (by rfl) (by decide) ?_
              refine WL.yld (wanted_plain (by rfl)) (yld_move (by rfl)) (by rfl) (by decide) ?_
              refine WL.yld (wanted_plain (by rfl)) (yld_add (by rfl) (by rfl) (by first | exact w64 (by omega) (by omega) | rfl)) (by rfl) (by decide) ?_
              refine WL.yld (wanted_plain (by rfl)) (yld_build (by repeat (first | exact Prts.nil | apply Prts.cons | rfl)) (by exact Try.zeroValue44) (by exact Try.runUnderlying44) (by exact fun w => places44 w Try.underlying44) (by first | decide | simp) (by repeat (first | exact Fill.nil | apply Fill.cons | exact SetAts.nil | apply SetAts.cons | exact SetAt.here | apply SetAt.there | rfl))) (by rfl) (by decide) ?_
              refine WL.sat (fun w s => s.nilSl true 5 1) ?_
              refine WL.eff (wanted_plain (by rfl)) (eff_call (by exact Try.call19) (by repeat (first | exact Evs.nil | apply Evs.cons | rfl)) (by repeat (first | exact SelL.nil | exact SelL.self | apply SelL.cons | exact Sel.here | apply Sel.there | apply SelL.skip)) (in_spec q18 (WE window m.toNat 0) (WE_inok (by omega) (by omega)) ⟨0, m + 1, []⟩ true none 0)) (by rfl) (by decide) ?_
              rintro ⟨ad99, len99, cap99, vs99⟩ -
              rw [show (⟨0, m + 1, []⟩ : Pkt) = ⟨0, (m.toNat : Int) + 1, []⟩ from by congr 1; omega, inW_beyond]
              try dsimp only
              refine WL.done ?_
              refine WK.seq ?_
              refine WK.seq ?_
              refine WK.region ?_
              refine WL.yld (wanted_plain (by rfl)) (yld_move (by rfl)) (by rfl) (by decide) ?_
              refine WL.eff (wanted_plain (by rfl)) (eff_call (by exact Try.call22) (by repeat (first | exact Evs.nil | apply Evs.cons | rfl)) (by repeat (first | exact SelL.nil | exact SelL.self | apply SelL.cons | exact Sel.here | apply Sel.there | apply SelL.skip)) (waiting_spec q18 (WE window m.toNat 0))) (by rfl) (by decide) ?_
              rintro _ -
              rw [WE_len]
              try dsimp only
              refine WL.yld (wanted_plain (by rfl)) (yld_move (by rfl)) (by rfl) (by decide) ?_
              refine WL.yld (wanted_plain (by rfl)) (yld_neq (by rfl) (by rfl)) (by rfl) (by decide) ?_
              refine WL.done ?_
              refine WK.cond (by rfl) (fun hc103 => ?_) (fun hc103 => ?_)
              · skip
                have hc103 := of_decide_eq_true hc103
                first | omega | exact absurd rfl hc103 | (simp at hc103; done) | (exact absurd hc103 (by decide))
              · skip
                have hc103 := of_decide_eq_false hc103
                refine WK.skip ?_
                refine WK.seq ?_
                refine WK.region ?_
                refine WL.yld (wanted_plain (by rfl)) (yld_move (by rfl)) (by rfl) (by decide) ?_
                refine WL.yld (wanted_plain (by rfl)) (yld_move (by rfl)) (by rfl) (by decide) ?_
                refine WL.yld (wanted_plain (by rfl)) (yld_build (by repeat (first | exact Prts.nil | apply Prts.cons | rfl)) (by exact Try.zeroValue44) (by exact Try.runUnderlying44) (by exact fun w => places44 w Try.underlying44) (by first | decide | simp) (by repeat (first | exact Fill.nil | apply Fill.cons | exact SetAts.nil | apply SetAts.cons | exact SetAt.here | apply SetAt.there | rfl))) (by rfl) (by decide) ?_
                refine WL.sat (fun w s => s.nilSl true 5 1) ?_
                refine WL.eff (wanted_plain (by rfl)) (eff_call (by exact Try.call19) (by repeat (first | exact Evs.nil | apply Evs.cons | rfl)) (by repeat (first | exact SelL.nil | exact SelL.self | apply SelL.cons | exact Sel.here | apply Sel.there | apply SelL.skip)) (in_spec q18 (WE window m.toNat 0) (WE_inok (by omega) (by omega)) ⟨0, k, []⟩ true none 0)) (by rfl) (by decide) ?_
                rintro ⟨ad107, len107, cap107, vs107⟩ -
                rw [show (⟨0, k, []⟩ : Pkt) = ⟨0, (k.toNat : Int), []⟩ from by congr 1; omega, inW (by omega)]
                try dsimp only
                refine WL.done ?_
                refine WK.seq ?_
                refine WK.region ?_
                refine WL.yld (wanted_plain (by rfl)) (yld_move (by rfl)) (by rfl) (by decide) ?_
                refine WL.eff (wanted_plain (by rfl)) (eff_call (by exact Try.call15) (by repeat (first | exact Evs.nil | apply Evs.cons | rfl)) (by repeat (first | exact SelL.nil | exact SelL.self | apply SelL.cons | exact Sel.here | apply Sel.there | apply SelL.skip)) (out_specR q18 (WE window (m.toNat - k.toNat) k.toNat) (WE_ok hw (by omega) (by omega)))) (by rfl) (by decide) ?_
                rintro ⟨ad109, len109, cap109, vs109⟩ ⟨hl109, hv109⟩
                rw [outW] at hl109 ⊢
                dsimp only at hl109 hv109 ⊢
                have hl109' := outW_len (w := window) (m := m.toNat - k.toNat) (k := k.toNat) hw
                try dsimp only
                refine WL.yld (wanted_plain (by rfl)) (yld_assign (by rfl)) (by rfl) (by decide) ?_
                refine WL.done ?_
                refine WK.seq ?_
                refine WK.region ?_
                refine WL.yld (wanted_plain (by rfl)) (yld_move (by rfl)) (by rfl) (by decide) ?_
                refine WL.eff (wanted_plain (by rfl)) (eff_call (by exact Try.call22) (by repeat (first | exact Evs.nil | apply Evs.cons | rfl)) (by repeat (first | exact SelL.nil | exact SelL.self | apply SelL.cons | exact Sel.here | apply Sel.there | apply SelL.skip)) (waiting_spec q18 (WE window (m.toNat - k.toNat) k.toNat))) (by rfl) (by decide) ?_
                rintro _ -
                rw [WE_len]
                try dsimp only
                refine WL.yld (wanted_plain (by rfl)) (yld_move (by rfl)) (by rfl) (by decide) ?_
                refine WL.yld (wanted_plain (by rfl)) (yld_move (by rfl)) (by rfl) (by decide) ?_
                refine WL.yld (wanted_plain (by rfl)) (yld_sub (by rfl) (by rfl) (by first | exact w64 (by omega) (by omega) | rfl)) (by rfl) (by decide) ?_
                refine WL.yld (wanted_plain (by rfl)) (yld_eql (by rfl) (by rfl)) (by rfl) (by decide) ?_
                refine WL.yld (wanted_plain (by rfl)) (yld_move (by rfl)) (by rfl) (by decide) ?_
                refine WL.split (d := 116) (by rfl) (fun hc116 => ?_) (fun hc116 => ?_)
                · skip
                  have hc116 := of_decide_eq_true hc116
                  refine WL.yld (wanted_some (by rfl) (by rfl) (by rfl)) (yld_move (by rfl)) (by rfl) (by decide) ?_
                  refine WL.yld (wanted_some (by rfl) (by rfl) (by rfl)) (yld_len (by rfl) (by exact Try.runUnderlying35)) (by rfl) (by decide) ?_
                  refine WL.yld (wanted_some (by rfl) (by rfl) (by rfl)) (yld_move (by rfl)) (by rfl) (by decide) ?_
                  refine WL.yld (wanted_some (by rfl) (by rfl) (by rfl)) (yld_move (by rfl)) (by rfl) (by decide) ?_
                  refine WL.yld (wanted_some (by rfl) (by rfl) (by rfl)) (yld_sub (by rfl) (by rfl) (by first | exact w64 (by omega) (by omega) | rfl)) (by rfl) (by decide) ?_
                  refine WL.yld (wanted_some (by rfl) (by rfl) (by rfl)) (yld_move (by rfl)) (by rfl) (by decide) ?_
                  refine WL.yld (wanted_some (by rfl) (by rfl) (by rfl)) (yld_min (by rfl) (by rfl)) (by rfl) (by decide) ?_
                  refine WL.yld (wanted_some (by rfl) (by rfl) (by rfl)) (yld_eql (by rfl) (by rfl)) (by rfl) (by decide) ?_
                  refine WL.yld (wanted_plain (by rfl)) (yld_pick_true (by rfl) (by rfl)) (by rfl) (by decide) ?_
                  refine WL.yld (wanted_plain (by rfl)) (yld_move (by rfl)) (by rfl) (by decide) ?_
                  refine WL.split (d := 126) (by rfl) (fun hc126 => ?_) (fun hc126 => ?_)
                  · skip
                    have hc126 := of_decide_eq_true hc126
                    refine WL.yld (wanted_some (by rfl) (by rfl) (by rfl)) (yld_move (by rfl)) (by rfl) (by decide) ?_
                    refine WL.yld (wanted_some (by rfl) (by rfl) (by rfl)) (yld_len (by rfl) (by exact Try.runUnderlying35)) (by rfl) (by decide) ?_
                    refine WL.yld (wanted_some (by rfl) (by rfl) (by rfl)) (yld_eql (by rfl) (by rfl)) (by rfl) (by decide) ?_
                    refine WL.yld (wanted_some (by rfl) (by rfl) (by rfl)) (yld_move (by rfl)) (by rfl) (by decide) ?_
                    refine WL.split (d := 130) (by rfl) (fun hc130 => ?_) (fun hc130 => ?_)
                    · skip
                      have hc130 := of_decide_eq_true hc130
                      refine WL.skip (unwanted_some (by rfl) (by rfl) (by rfl) (by rfl)) (by rfl) (by decide) ?_
                      refine WL.skip (unwanted_some (by rfl) (by rfl) (by rfl) (by rfl)) (by rfl) (by decide) ?_
                      refine WL.skip (unwanted_some (by rfl) (by rfl) (by rfl) (by rfl)) (by rfl) (by decide) ?_
                      refine WL.skip (unwanted_some (by rfl) (by rfl) (by rfl) (by rfl)) (by rfl) (by decide) ?_
                      refine WL.skip (unwanted_some (by rfl) (by rfl) (by rfl) (by rfl)) (by rfl) (by decide) ?_
                      refine WL.skip (unwanted_some (by rfl) (by rfl) (by rfl) (by rfl)) (by rfl) (by decide) ?_
                      refine WL.skip (unwanted_some (by rfl) (by rfl) (by rfl) (by rfl)) (by rfl) (by decide) ?_
                      refine WL.yld (wanted_some (by rfl) (by rfl) (by rfl)) (yld_pick_true (by rfl) (by rfl)) (by rfl) (by decide) ?_
                      refine WL.yld (wanted_plain (by rfl)) (yld_pick_true (by rfl) (by rfl)) (by rfl) (by decide) ?_
                      refine WL.yld (wanted_plain (by rfl)) (yld_move (by rfl)) (by rfl) (by decide) ?_
                      refine WL.yld (wanted_some (by rfl) (by rfl) (by rfl)) (yld_move (by rfl)) (by rfl) (by decide) ?_
                      refine WL.eff (wanted_some (by rfl) (by rfl) (by rfl)) (eff_makeSlice1 (by rfl) (by rfl) (by exact Try.runUnderlying31) (by exact Try.typeInfo5) (by rfl) (by rfl) (by rfl) (by rfl) (by decide) (by decide) (by decide)) (by rfl) (by decide) ?_
                      rintro b142 -
                      try dsimp only
                      rw [show List.replicate 65537 (Value.int .u8 0) = (List.replicate 65537 (0 : UInt8)).map bv from by rw [List.map_replicate]; rfl]
                      refine WL.eff (wanted_some (by rfl) (by rfl) (by rfl)) (eff_call (by exact Try.call13) (by repeat (first | exact Evs.nil | apply Evs.cons | rfl)) (by repeat (first | exact SelL.nil | exact SelL.self | apply SelL.cons | exact Sel.here | apply Sel.there | apply SelL.skip)) (send_specL q18 (WE window (m.toNat - k.toNat) k.toNat) true (some ⟨b142, 0, none⟩) 65537 65537 (List.replicate 65537 0) List.length_replicate (by decide))) (by rfl) (by decide) ?_
                      rintro _ -
                      rw [show sendM (WE window (m.toNat - k.toNat) k.toNat) (List.replicate 65537 0) = (4, WE window (m.toNat - k.toNat) k.toNat) from if_pos (.inl (by rw [List.length_replicate]; decide))]
                      try dsimp only
                      refine WL.yld (wanted_some (by rfl) (by rfl) (by rfl)) (yld_eql (by rfl) (by rfl)) (by rfl) (by decide) ?_
                      refine WL.yld (wanted_plain (by rfl)) (yld_pick_true (by rfl) (by rfl)) (by rfl) (by decide) ?_
                      refine WL.yld (wanted_plain (by rfl)) (yld_move (by rfl)) (by rfl) (by decide) ?_
                      refine WL.split (d := 146) (by rfl) (fun hc146 => ?_) (fun hc146 => ?_)
                      · skip
                        have hc146 := of_decide_eq_true hc146
                        refine WL.eff (wanted_some (by rfl) (by rfl) (by rfl)) (eff_call (by exact Try.call23) (by repeat (first | exact Evs.nil | apply Evs.cons | rfl)) (by repeat (first | exact SelL.nil | exact SelL.self | apply SelL.cons | exact Sel.here | apply Sel.there | apply SelL.skip)) lives_spec) (by rfl) (by decide) ?_
                        rintro _ -
                        try dsimp only
                        refine WL.yld (wanted_plain (by rfl)) (yld_pick_true (by rfl) (by rfl)) (by rfl) (by decide) ?_
                        refine WL.yld (wanted_plain (by rfl)) (yld_assign (by rfl)) (by rfl) (by decide) ?_
                        refine WL.done ?_
                        refine WK.ret ?_
                        repeat (first | refine RQ.block ?_ | refine RQ.then_ ?_)
                        refine RQ.body (results1 (by rfl) (by rfl)) (fun w s => ?_)
                        exact ⟨(), trivial, rfl, s.toCs (by repeat (first | exact SelL.nil | exact SelL.self | apply SelL.cons | exact Sel.here | apply Sel.there | apply SelL.skip))⟩
                      · skip
                        have hc146 := of_decide_eq_false hc146
                        first | omega | exact absurd rfl hc146 | (simp at hc146; done) | (exact absurd hc146 (by decide))
                    · skip
                      have hc130 := of_decide_eq_false hc130
                      refine WL.yld (wanted_some (by rfl) (by rfl) (by rfl)) (yld_move (by rfl)) (by rfl) (by decide) ?_
                      refine WL.yld (wanted_some (by rfl) (by rfl) (by rfl)) (yld_indexAddrS (by rfl) (by rfl) (by exact Try.runUnderlying35) (by exact Try.sizeOf44) (by repeat (first | exact .here | apply Sel.there)) (0) (by first | rfl | omega) (by omega) (by omega) (by rfl)) (by rfl) (by decide) ?_
                      refine WL.yld (wanted_some (by rfl) (by rfl) (by rfl)) (yld_fieldAddrS (by rfl) (by exact Try.runUnderlying44) (by rfl) (by exact Try.sizeOf3) (by rfl) (by rfl)) (by rfl) (by decide) ?_
                      refine WL.yld (wanted_some (by rfl) (by rfl) (by rfl)) (yld_loadS (by rfl) (by exact Try.isAgg3) (by repeat (first | exact .here | apply Sel.there)) (by exact pktC_seq (j := 0) (outW_get (by omega)) (by omega) (by rfl))) (by rfl) (by decide) ?_
                      refine WL.yld (wanted_some (by rfl) (by rfl) (by rfl)) (yld_move (by rfl)) (by rfl) (by decide) ?_
                      refine WL.yld (wanted_some (by rfl) (by rfl) (by rfl)) (yld_add (by rfl) (by rfl) (by first | exact w64 (by omega) (by omega) | rfl)) (by rfl) (by decide) ?_
                      refine WL.yld (wanted_some (by rfl) (by rfl) (by rfl)) (yld_eql (by rfl) (by rfl)) (by rfl) (by decide) ?_
                      refine WL.yld (wanted_some (by rfl) (by rfl) (by rfl)) (yld_pick_false (by rfl) (by rfl)) (by rfl) (by decide) ?_
                      refine WL.yld (wanted_plain (by rfl)) (yld_pick_true (by rfl) (by rfl)) (by rfl) (by decide) ?_
                      refine WL.yld (wanted_plain (by rfl)) (yld_move (by rfl)) (by rfl) (by decide) ?_
                      refine WL.split (d := 140) (by rfl) (fun hc140 => ?_) (fun hc140 => ?_)
                      · skip
                        have hc140 := of_decide_eq_true hc140
                        refine WL.yld (wanted_some (by rfl) (by rfl) (by rfl)) (yld_move (by rfl)) (by rfl) (by decide) ?_
                        refine WL.eff (wanted_some (by rfl) (by rfl) (by rfl)) (eff_makeSlice1 (by rfl) (by rfl) (by exact Try.runUnderlying31) (by exact Try.typeInfo5) (by rfl) (by rfl) (by rfl) (by rfl) (by decide) (by decide) (by decide)) (by rfl) (by decide) ?_
                        rintro b142 -
                        try dsimp only
                        rw [show List.replicate 65537 (Value.int .u8 0) = (List.replicate 65537 (0 : UInt8)).map bv from by rw [List.map_replicate]; rfl]
                        refine WL.eff (wanted_some (by rfl) (by rfl) (by rfl)) (eff_call (by exact Try.call13) (by repeat (first | exact Evs.nil | apply Evs.cons | rfl)) (by repeat (first | exact SelL.nil | exact SelL.self | apply SelL.cons | exact Sel.here | apply Sel.there | apply SelL.skip)) (send_specL q18 (WE window (m.toNat - k.toNat) k.toNat) true (some ⟨b142, 0, none⟩) 65537 65537 (List.replicate 65537 0) List.length_replicate (by decide))) (by rfl) (by decide) ?_
                        rintro _ -
                        rw [show sendM (WE window (m.toNat - k.toNat) k.toNat) (List.replicate 65537 0) = (4, WE window (m.toNat - k.toNat) k.toNat) from if_pos (.inl (by rw [List.length_replicate]; decide))]
                        try dsimp only
                        refine WL.yld (wanted_some (by rfl) (by rfl) (by rfl)) (yld_eql (by rfl) (by rfl)) (by rfl) (by decide) ?_
                        refine WL.yld (wanted_plain (by rfl)) (yld_pick_true (by rfl) (by rfl)) (by rfl) (by decide) ?_
                        refine WL.yld (wanted_plain (by rfl)) (yld_move (by rfl)) (by rfl) (by decide) ?_
                        refine WL.split (d := 146) (by rfl) (fun hc146 => ?_) (fun hc146 => ?_)
                        · skip
                          have hc146 := of_decide_eq_true hc146
                          refine WL.eff (wanted_some (by rfl) (by rfl) (by rfl)) (eff_call (by exact Try.call23) (by repeat (first | exact Evs.nil | apply Evs.cons | rfl)) (by repeat (first | exact SelL.nil | exact SelL.self | apply SelL.cons | exact Sel.here | apply Sel.there | apply SelL.skip)) lives_spec) (by rfl) (by decide) ?_
                          rintro _ -
                          try dsimp only
                          refine WL.yld (wanted_plain (by rfl)) (yld_pick_true (by rfl) (by rfl)) (by rfl) (by decide) ?_
                          refine WL.yld (wanted_plain (by rfl)) (yld_assign (by rfl)) (by rfl) (by decide) ?_
                          refine WL.done ?_
                          refine WK.ret ?_
                          repeat (first | refine RQ.block ?_ | refine RQ.then_ ?_)
                          refine RQ.body (results1 (by rfl) (by rfl)) (fun w s => ?_)
                          exact ⟨(), trivial, rfl, s.toCs (by repeat (first | exact SelL.nil | exact SelL.self | apply SelL.cons | exact Sel.here | apply Sel.there | apply SelL.skip))⟩
                        · skip
                          have hc146 := of_decide_eq_false hc146
                          first | omega | exact absurd rfl hc146 | (simp at hc146; done) | (exact absurd hc146 (by decide))
                      · skip
                        have hc140 := of_decide_eq_false hc140
                        exfalso; revert hc140; simp; omega
                  · skip
                    have hc126 := of_decide_eq_false hc126
                    omega
                · skip
                  have hc116 := of_decide_eq_false hc116
                  omega
end Go.Proofs.Ytnknclbiamhnaaa
