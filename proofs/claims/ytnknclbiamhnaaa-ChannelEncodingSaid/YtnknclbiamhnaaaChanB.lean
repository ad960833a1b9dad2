import Derived.Test.YtnknclbiamhnaaaChanA
import Derived.Test.YtnknclbiamhnaaaSepI
namespace Go.Proofs.Ytnknclbiamhnaaa
set_option linter.unusedVariables false
set_option linter.unusedSimpArgs false
set_option linter.unusedSectionVars false
open Go Go.Sep
attribute [local irreducible] row sl mapO held exL allR byt mapI slr endL
theorem pktC_cells : ∀ {ps : List Pkt} {vs : List Value} {j : Nat} {p : Pkt} {v : Value}, ps[j]? = some p → vs[j]? = some v → Cells (pktC ps vs) (j * 3) 3 [.int .i64 p.seq, .int .i64 p.ack, v]
  | [], _, _, _, _, h, _ => by simp at h
  | _ :: _, [], _, _, _, _, h => by simp at h
  | q :: ps, u :: vs, 0, p, v, h1, h2 => by
    simp at h1 h2
    subst h1 h2
    exact .cons rfl (.cons rfl (.cons rfl .nil))
  | q :: ps, u :: vs, j + 1, p, v, h1, h2 => by
    have ih := pktC_cells (ps := ps) (vs := vs) (j := j) (by simpa using h1) (by simpa using h2)
    cases ih with
    | cons a1 ih => cases ih with
      | cons a2 ih => cases ih with
        | cons a3 _ =>
          refine .cons ?_ (.cons ?_ (.cons ?_ .nil))
          · rw [show (j + 1) * 3 = j * 3 + 3 by omega]; simpa [pktC] using a1
          · rw [show (j + 1) * 3 + 1 = j * 3 + 1 + 3 by omega]; simpa [pktC] using a2
          · rw [show (j + 1) * 3 + 1 + 1 = j * 3 + 1 + 1 + 3 by omega]; simpa [pktC] using a3

theorem pktC_seq {ps : List Pkt} {vs : List Value} {j k : Nat} {p : Pkt} (h : ps[j]? = some p) (hv : j < vs.length) (hk : j * 3 = k) : (pktC ps vs)[k]? = some (.int .i64 p.seq) := by
  subst hk
  have := (pktC_cells h (List.getElem?_eq_getElem hv)).at 0 _ rfl
  simpa using this
theorem pktC_ack {ps : List Pkt} {vs : List Value} {j k : Nat} {p : Pkt} (h : ps[j]? = some p) (hv : j < vs.length) (hk : j * 3 + 1 = k) : (pktC ps vs)[k]? = some (.int .i64 p.ack) := by
  subst hk
  exact (pktC_cells h (List.getElem?_eq_getElem hv)).at 1 _ rfl
theorem pktC_b {ps : List Pkt} {vs : List Value} {j k : Nat} {p : Pkt} {v : Value} (h : ps[j]? = some p) (hv : vs[j]? = some v) (hk : j * 3 + 2 = k) : (pktC ps vs)[k]? = some v := by
  subst hk
  exact (pktC_cells h hv).at 2 _ rfl
theorem pktC_len : ∀ {ps : List Pkt} {vs : List Value}, ps.length = vs.length → (pktC ps vs).length = ps.length * 3
  | [], [], _ => rfl
  | [], _ :: _, h => by simp at h
  | _ :: _, [], h => by simp at h
  | q :: ps, u :: vs, h => by
    have := pktC_len (ps := ps) (vs := vs) (by simpa using h)
    simp [pktC, this]; omega

theorem Sat.bytsFreeze {g w : World} {t : TypeId} {vs : List Value} {xs : List (List UInt8)} {Ps : List HProp} (s : Sat g w (allR (byt t true) vs xs :: Ps)) : Sat g w (allR (byt t false) vs xs :: Ps) := by
  have := Sat.allMap (Rl' := byt t false) (f := id) (fun v x Ps s => Sat.bytFreeze s) s
  simpa using this

/-- Out, its packets' bytes only to be read. -/
theorem out_specR (q : Nat) (e : EndM) (ok : EndOk e) :
    Triple Try.prog 15 #[.pointer (some ⟨q, 0, none⟩)] [endR q e] (Option Addr × Nat × Nat × List Value) (fun r => r.2.1 = (outM e).1.length ∧ r.2.2.2.length = r.2.1) (fun r => .slice r.1 r.2.1 r.2.2.1)
      (fun r => [endR q (outM e).2, sl true 44 3 r.1 r.2.1 r.2.2.1 (pktC (outM e).1 r.2.2.2), allR (byt 5 false) r.2.2.2 ((outM e).1.map (·.b))]) :=
  (out_spec q e ok).mono (fun _ _ _ s => s) fun x hx => ⟨x, hx, rfl, fun g w F s =>
    (Sat.bytsFreeze (s.sel1 (A := allR (byt 5 true) x.2.2.2 ((outM e).1.map (·.b))) (.there (.there .here)))).perm ((List.Perm.swap _ _ _).trans (.cons _ (.swap _ _ _)))⟩

theorem aroundM_range (i m : Int) (hm : 1 ≤ m) : 0 ≤ aroundM i m ∧ aroundM i m < m := by
  unfold aroundM
  split
  · exact ⟨Int.emod_nonneg _ (by omega), Int.emod_lt_of_pos _ (by omega)⟩
  · exact ⟨Int.emod_nonneg _ (by omega), Int.emod_lt_of_pos _ (by omega)⟩
theorem tdiv16 (i : Int) (h : -9223372036854775808 ≤ i ∧ i ≤ 9223372036854775807) : -9223372036854775808 ≤ i.tdiv 16 ∧ i.tdiv 16 ≤ 9223372036854775807 := by
  rw [tdiv_eq_if]
  split <;> omega
set_option maxRecDepth 20000 in
set_option maxHeartbeats 1000000 in
theorem ends_spec (i : Int) (hi : -9223372036854775808 ≤ i ∧ i ≤ 9223372036854775807) :
    Triple Try.prog 10 #[.int .i64 i] [] (Nat × Nat × Nat) (fun _ => True) (fun r => .slice (some ⟨r.1, 0, none⟩) 2 2) (fun r => [sl true 33 1 (some ⟨r.1, 0, none⟩) 2 2 [.pointer (some ⟨r.2.1, 0, none⟩), .pointer (some ⟨r.2.2, 0, none⟩)], endR r.2.1 (newE (1 + aroundM i 16)), endR r.2.2 (newE (1 + aroundM (i.tdiv 16) 16))]) := by
  refine Triple.of_body (args := [.int .i64 i]) Try.func10 rfl Try.ntmps10 (by simp) (fun g F => ?_)
  dsimp only [numb, List.cons_append, List.nil_append]
  have h1 := aroundM_range i 16 (by omega)
  have h2 := aroundM_range (i.tdiv 16) 16 (by omega)
  have h3 := tdiv16 i hi
  refine WK.seq ?_
  refine WK.region ?_
  refine WL.yld (wanted_plain (by rfl)) (yld_assign (by rfl)) (by rfl) (by decide) ?_
  refine WL.done ?_
  refine WK.seq ?_
  refine WK.region ?_
  refine WL.yld (wanted_plain (by rfl)) (yld_move (by rfl)) (by rfl) (by decide) ?_
  refine WL.eff (wanted_plain (by rfl)) (eff_call (by exact Try.call12) (by repeat (first | exact Evs.nil | apply Evs.cons | rfl)) (by repeat (first | exact SelL.nil | exact SelL.self | apply SelL.cons | exact Sel.here | apply Sel.there | apply SelL.skip)) (around_spec i 16 hi (by omega))) (by rfl) (by decide) ?_
  rintro _ -
  try dsimp only
  refine WL.yld (wanted_plain (by rfl)) (yld_add (by rfl) (by rfl) (by first | exact w64 (by omega) (by omega) | rfl)) (by rfl) (by decide) ?_
  refine WL.eff (wanted_plain (by rfl)) (eff_call (by exact Try.call25) (by repeat (first | exact Evs.nil | apply Evs.cons | rfl)) (by repeat (first | exact SelL.nil | exact SelL.self | apply SelL.cons | exact Sel.here | apply Sel.there | apply SelL.skip)) (new_spec (1 + aroundM i 16))) (by rfl) (by decide) ?_
  rintro x11 hx11
  obtain ⟨q11, rfl⟩ : ∃ q, x11 = some q := Option.isSome_iff_exists.1 (hx11.2 (by omega))
  try dsimp only
  refine WL.yld (wanted_plain (by rfl)) (yld_move (by rfl)) (by rfl) (by decide) ?_
  refine WL.yld (wanted_plain (by rfl)) (yld_extract (by rfl) (by rfl)) (by rfl) (by decide) ?_
  refine WL.yld (wanted_plain (by rfl)) (yld_extract (by rfl) (by rfl)) (by rfl) (by decide) ?_
  refine WL.yld (wanted_plain (by rfl)) (yld_assign (by rfl)) (by rfl) (by decide) ?_
  refine WL.yld (wanted_plain (by rfl)) (yld_assign (by rfl)) (by rfl) (by decide) ?_
  refine WL.done ?_
  refine WK.seq ?_
  refine WK.region ?_
  refine WL.yld (wanted_plain (by rfl)) (yld_move (by rfl)) (by rfl) (by decide) ?_
  refine WL.yld (wanted_plain (by rfl)) (yld_quo (by rfl) (by rfl) (by omega) (by exact IntWalk.i64_quo' i 16 ⟨hi.1, hi.2, by omega⟩)) (by rfl) (by decide) ?_
  refine WL.eff (wanted_plain (by rfl)) (eff_call (by exact Try.call12) (by repeat (first | exact Evs.nil | apply Evs.cons | rfl)) (by repeat (first | exact SelL.nil | exact SelL.self | apply SelL.cons | exact Sel.here | apply Sel.there | apply SelL.skip)) (around_spec (i.tdiv 16) 16 h3 (by omega))) (by rfl) (by decide) ?_
  rintro _ -
  try dsimp only
  refine WL.yld (wanted_plain (by rfl)) (yld_add (by rfl) (by rfl) (by first | exact w64 (by omega) (by omega) | rfl)) (by rfl) (by decide) ?_
  refine WL.eff (wanted_plain (by rfl)) (eff_call (by exact Try.call25) (by repeat (first | exact Evs.nil | apply Evs.cons | rfl)) (by repeat (first | exact SelL.nil | exact SelL.self | apply SelL.cons | exact Sel.here | apply Sel.there | apply SelL.skip)) (new_spec (1 + aroundM (i.tdiv 16) 16))) (by rfl) (by decide) ?_
  rintro x19 hx19
  obtain ⟨q19, rfl⟩ : ∃ q, x19 = some q := Option.isSome_iff_exists.1 (hx19.2 (by omega))
  try dsimp only
  refine WL.yld (wanted_plain (by rfl)) (yld_move (by rfl)) (by rfl) (by decide) ?_
  refine WL.yld (wanted_plain (by rfl)) (yld_extract (by rfl) (by rfl)) (by rfl) (by decide) ?_
  refine WL.yld (wanted_plain (by rfl)) (yld_extract (by rfl) (by rfl)) (by rfl) (by decide) ?_
  refine WL.yld (wanted_plain (by rfl)) (yld_assign (by rfl)) (by rfl) (by decide) ?_
  refine WL.yld (wanted_plain (by rfl)) (yld_assign (by rfl)) (by rfl) (by decide) ?_
  refine WL.done ?_
  refine WK.seq ?_
  refine WK.seq ?_
  refine WK.region ?_
  refine WL.yld (wanted_plain (by rfl)) (yld_move (by rfl)) (by rfl) (by decide) ?_
  refine WL.yld (wanted_plain (by rfl)) (yld_eqlPtr (by rfl) (by rfl) (by exact Try.runUnderlying33)) (by rfl) (by decide) ?_
  refine WL.yld (wanted_plain (by rfl)) (yld_move (by rfl)) (by rfl) (by decide) ?_
  refine WL.yld (wanted_some (by rfl) (by rfl) (by rfl)) (yld_move (by rfl)) (by rfl) (by decide) ?_
  refine WL.yld (wanted_some (by rfl) (by rfl) (by rfl)) (yld_eqlPtr (by rfl) (by rfl) (by exact Try.runUnderlying33)) (by rfl) (by decide) ?_
  refine WL.yld (wanted_plain (by rfl)) (yld_pick_false (by rfl) (by rfl)) (by rfl) (by decide) ?_
  refine WL.yld (wanted_plain (by rfl)) (yld_move (by rfl)) (by rfl) (by decide) ?_
  refine WL.yld (wanted_some (by rfl) (by rfl) (by rfl)) (yld_move (by rfl)) (by rfl) (by decide) ?_
  refine WL.yld (wanted_some (by rfl) (by rfl) (by rfl)) (yld_neq (by rfl) (by rfl)) (by rfl) (by decide) ?_
  refine WL.yld (wanted_plain (by rfl)) (yld_pick_false (by rfl) (by rfl)) (by rfl) (by decide) ?_
  refine WL.yld (wanted_plain (by rfl)) (yld_move (by rfl)) (by rfl) (by decide) ?_
  refine WL.split (d := 32) (by rfl) (fun hc32 => ?_) (fun hc32 => ?_)
  · skip
    have hc32 := of_decide_eq_true hc32
    omega
  · skip
    have hc32 := of_decide_eq_false hc32
    refine WL.yld (wanted_some (by rfl) (by rfl) (by rfl)) (yld_move (by rfl)) (by rfl) (by decide) ?_
    refine WL.yld (wanted_some (by rfl) (by rfl) (by rfl)) (yld_neq (by rfl) (by rfl)) (by rfl) (by decide) ?_
    refine WL.yld (wanted_plain (by rfl)) (yld_pick_false (by rfl) (by rfl)) (by rfl) (by decide) ?_
    refine WL.done ?_
    refine WK.cond (by rfl) (fun hc35 => ?_) (fun hc35 => ?_)
    · skip
      have hc35 := of_decide_eq_true hc35
      omega
    · skip
      have hc35 := of_decide_eq_false hc35
      refine WK.skip ?_
      refine WK.seq ?_
      refine WK.region ?_
      refine WL.yld (wanted_plain (by rfl)) (yld_move (by rfl)) (by rfl) (by decide) ?_
      refine WL.yld (wanted_plain (by rfl)) (yld_move (by rfl)) (by rfl) (by decide) ?_
      refine WL.eff (wanted_plain (by rfl)) (eff_mkSliceN (by exact Try.runUnderlying23) (by exact Try.sizeOf33) (by exact Try.zeroValue33) (by repeat (first | exact PrtsN.nil | apply PrtsN.cons | rfl)) (by decide) (by rfl) (by rfl) (by rfl) (by rfl)) (by rfl) (by decide) ?_
      rintro b38 -
      try dsimp only [List.cons_append, List.nil_append]
      try dsimp only
      refine WL.yld (wanted_plain (by rfl)) (yld_assign (by rfl)) (by rfl) (by decide) ?_
      refine WL.done ?_
      refine WK.ret ?_
      repeat (first | refine RQ.block ?_ | refine RQ.then_ ?_)
      refine RQ.body (results1 (by rfl) (by rfl)) (fun w s => ?_)
      exact ⟨(b38, q11, q19), trivial, rfl, s.toCs (by repeat (first | exact SelL.nil | exact SelL.self | apply SelL.cons | exact Sel.here | apply Sel.there | apply SelL.skip))⟩
set_option maxRecDepth 20000 in
set_option maxHeartbeats 1000000 in
theorem lives_spec  :
    Triple Try.prog 23 #[] [] (Unit) (fun _ => True) (fun _ => .bool true) (fun _ => []) := by
  refine Triple.of_body (args := []) Try.func23 rfl Try.ntmps23 (by simp) (fun g F => ?_)
  dsimp only [numb, List.cons_append, List.nil_append]
  refine WK.seq ?_
  refine WK.region ?_
  refine WL.yld (wanted_plain (by rfl)) (yld_assign (by rfl)) (by rfl) (by decide) ?_
  refine WL.done ?_
  refine WK.seq ?_
  refine WK.region ?_
  refine WL.eff (wanted_plain (by rfl)) (eff_call (by exact Try.call25) (by repeat (first | exact Evs.nil | apply Evs.cons | rfl)) (by repeat (first | exact SelL.nil | exact SelL.self | apply SelL.cons | exact Sel.here | apply Sel.there | apply SelL.skip)) (new_spec 2)) (by rfl) (by decide) ?_
  rintro x10 hx10
  obtain ⟨q10, rfl⟩ : ∃ q, x10 = some q := Option.isSome_iff_exists.1 (hx10.2 (by omega))
  try dsimp only
  refine WL.yld (wanted_plain (by rfl)) (yld_move (by rfl)) (by rfl) (by decide) ?_
  refine WL.yld (wanted_plain (by rfl)) (yld_extract (by rfl) (by rfl)) (by rfl) (by decide) ?_
  refine WL.yld (wanted_plain (by rfl)) (yld_extract (by rfl) (by rfl)) (by rfl) (by decide) ?_
  refine WL.yld (wanted_plain (by rfl)) (yld_assign (by rfl)) (by rfl) (by decide) ?_
  refine WL.yld (wanted_plain (by rfl)) (yld_assign (by rfl)) (by rfl) (by decide) ?_
  refine WL.done ?_
  refine WK.seq ?_
  refine WK.region ?_
  refine WL.eff (wanted_plain (by rfl)) (eff_call (by exact Try.call25) (by repeat (first | exact Evs.nil | apply Evs.cons | rfl)) (by repeat (first | exact SelL.nil | exact SelL.self | apply SelL.cons | exact Sel.here | apply Sel.there | apply SelL.skip)) (new_spec 2)) (by rfl) (by decide) ?_
  rintro x14 hx14
  obtain ⟨q14, rfl⟩ : ∃ q, x14 = some q := Option.isSome_iff_exists.1 (hx14.2 (by omega))
  try dsimp only
  refine WL.yld (wanted_plain (by rfl)) (yld_move (by rfl)) (by rfl) (by decide) ?_
  refine WL.yld (wanted_plain (by rfl)) (yld_extract (by rfl) (by rfl)) (by rfl) (by decide) ?_
  refine WL.yld (wanted_plain (by rfl)) (yld_extract (by rfl) (by rfl)) (by rfl) (by decide) ?_
  refine WL.yld (wanted_plain (by rfl)) (yld_assign (by rfl)) (by rfl) (by decide) ?_
  refine WL.yld (wanted_plain (by rfl)) (yld_assign (by rfl)) (by rfl) (by decide) ?_
  refine WL.done ?_
  refine WK.seq ?_
  refine WK.seq ?_
  refine WK.region ?_
  refine WL.yld (wanted_plain (by rfl)) (yld_move (by rfl)) (by rfl) (by decide) ?_
  refine WL.yld (wanted_plain (by rfl)) (yld_eqlPtr (by rfl) (by rfl) (by exact Try.runUnderlying33)) (by rfl) (by decide) ?_
  refine WL.yld (wanted_plain (by rfl)) (yld_move (by rfl)) (by rfl) (by decide) ?_
  refine WL.yld (wanted_some (by rfl) (by rfl) (by rfl)) (yld_move (by rfl)) (by rfl) (by decide) ?_
  refine WL.yld (wanted_some (by rfl) (by rfl) (by rfl)) (yld_eqlPtr (by rfl) (by rfl) (by exact Try.runUnderlying33)) (by rfl) (by decide) ?_
  refine WL.yld (wanted_plain (by rfl)) (yld_pick_false (by rfl) (by rfl)) (by rfl) (by decide) ?_
  refine WL.yld (wanted_plain (by rfl)) (yld_move (by rfl)) (by rfl) (by decide) ?_
  refine WL.yld (wanted_some (by rfl) (by rfl) (by rfl)) (yld_move (by rfl)) (by rfl) (by decide) ?_
  refine WL.yld (wanted_some (by rfl) (by rfl) (by rfl)) (yld_neq (by rfl) (by rfl)) (by rfl) (by decide) ?_
  refine WL.yld (wanted_plain (by rfl)) (yld_pick_false (by rfl) (by rfl)) (by rfl) (by decide) ?_
  refine WL.yld (wanted_plain (by rfl)) (yld_move (by rfl)) (by rfl) (by decide) ?_
  refine WL.split (d := 27) (by rfl) (fun hc27 => ?_) (fun hc27 => ?_)
  · skip
    have hc27 := of_decide_eq_true hc27
    first | omega | exact absurd rfl hc27 | (simp at hc27; done) | (exact absurd hc27 (by decide))
  · skip
    have hc27 := of_decide_eq_false hc27
    refine WL.yld (wanted_some (by rfl) (by rfl) (by rfl)) (yld_move (by rfl)) (by rfl) (by decide) ?_
    refine WL.yld (wanted_some (by rfl) (by rfl) (by rfl)) (yld_neq (by rfl) (by rfl)) (by rfl) (by decide) ?_
    refine WL.yld (wanted_plain (by rfl)) (yld_pick_false (by rfl) (by rfl)) (by rfl) (by decide) ?_
    refine WL.done ?_
    refine WK.cond (by rfl) (fun hc30 => ?_) (fun hc30 => ?_)
    · skip
      have hc30 := of_decide_eq_true hc30
      first | omega | exact absurd rfl hc30 | (simp at hc30; done) | (exact absurd hc30 (by decide))
    · skip
      have hc30 := of_decide_eq_false hc30
      refine WK.skip ?_
      refine WK.seq ?_
      refine WK.region ?_
      refine WL.yld (wanted_plain (by rfl)) (yld_move (by rfl)) (by rfl) (by decide) ?_
      refine WL.eff (wanted_plain (by rfl)) (eff_mkSlice1 (by rfl) (by rfl) (by exact Try.runUnderlying31) (by exact Try.sizeOf5) (by exact Try.zeroValue5) (by rfl) (by rfl) (by decide) (by rfl)) (by rfl) (by decide) ?_
      rintro b32 -
      try dsimp only
      refine WL.eff (wanted_plain (by rfl)) (eff_convSame (by rfl) (by exact Try.runUnderlying31) (by exact Try.runUnderlying5) (by repeat (first | exact .here | apply Sel.there))) (by rfl) (by decide) ?_
      rintro _ -
      try dsimp only
      refine WL.eff (wanted_plain (by rfl)) (eff_call (by exact Try.call13) (by repeat (first | exact Evs.nil | apply Evs.cons | rfl)) (by repeat (first | exact SelL.nil | exact SelL.self | apply SelL.cons | exact Sel.here | apply Sel.there | apply SelL.skip)) (send_spec q10 (newE 2) true (some ⟨b32, 0, none⟩) 1 [97] (by decide))) (by rfl) (by decide) ?_
      rintro _ -
      rw [show sendM (newE 2) [97] = (0, ⟨2, [[97]], 0, 0, [], false⟩) from by rfl]
      try dsimp only
      refine WL.done ?_
      refine WK.seq ?_
      refine WK.region ?_
      refine WL.yld (wanted_plain (by rfl)) (yld_move (by rfl)) (by rfl) (by decide) ?_
      refine WL.eff (wanted_plain (by rfl)) (eff_mkSlice1 (by rfl) (by rfl) (by exact Try.runUnderlying31) (by exact Try.sizeOf5) (by exact Try.zeroValue5) (by rfl) (by rfl) (by decide) (by rfl)) (by rfl) (by decide) ?_
      rintro b36 -
      try dsimp only
      refine WL.eff (wanted_plain (by rfl)) (eff_convSame (by rfl) (by exact Try.runUnderlying31) (by exact Try.runUnderlying5) (by repeat (first | exact .here | apply Sel.there))) (by rfl) (by decide) ?_
      rintro _ -
      try dsimp only
      refine WL.eff (wanted_plain (by rfl)) (eff_call (by exact Try.call13) (by repeat (first | exact Evs.nil | apply Evs.cons | rfl)) (by repeat (first | exact SelL.nil | exact SelL.self | apply SelL.cons | exact Sel.here | apply Sel.there | apply SelL.skip)) (send_spec q10 ⟨2, [[97]], 0, 0, [], false⟩ true (some ⟨b36, 0, none⟩) 1 [98] (by decide))) (by rfl) (by decide) ?_
      rintro _ -
      rw [show sendM ⟨2, [[97]], 0, 0, [], false⟩ [98] = (0, ⟨2, [[97], [98]], 0, 0, [], false⟩) from by rfl]
      try dsimp only
      refine WL.done ?_
      refine WK.seq ?_
      refine WK.region ?_
      refine WL.yld (wanted_plain (by rfl)) (yld_move (by rfl)) (by rfl) (by decide) ?_
      refine WL.eff (wanted_plain (by rfl)) (eff_mkSlice1 (by rfl) (by rfl) (by exact Try.runUnderlying31) (by exact Try.sizeOf5) (by exact Try.zeroValue5) (by rfl) (by rfl) (by decide) (by rfl)) (by rfl) (by decide) ?_
      rintro b40 -
      try dsimp only
      refine WL.eff (wanted_plain (by rfl)) (eff_convSame (by rfl) (by exact Try.runUnderlying31) (by exact Try.runUnderlying5) (by repeat (first | exact .here | apply Sel.there))) (by rfl) (by decide) ?_
      rintro _ -
      try dsimp only
      refine WL.eff (wanted_plain (by rfl)) (eff_call (by exact Try.call13) (by repeat (first | exact Evs.nil | apply Evs.cons | rfl)) (by repeat (first | exact SelL.nil | exact SelL.self | apply SelL.cons | exact Sel.here | apply Sel.there | apply SelL.skip)) (send_spec q10 ⟨2, [[97], [98]], 0, 0, [], false⟩ true (some ⟨b40, 0, none⟩) 1 [99] (by decide))) (by rfl) (by decide) ?_
      rintro _ -
      rw [show sendM ⟨2, [[97], [98]], 0, 0, [], false⟩ [99] = (0, ⟨2, [[97], [98], [99]], 0, 0, [], false⟩) from by rfl]
      try dsimp only
      refine WL.done ?_
      refine WK.seq ?_
      refine WK.region ?_
      refine WL.yld (wanted_plain (by rfl)) (yld_move (by rfl)) (by rfl) (by decide) ?_
      refine WL.eff (wanted_plain (by rfl)) (eff_call (by exact Try.call15) (by repeat (first | exact Evs.nil | apply Evs.cons | rfl)) (by repeat (first | exact SelL.nil | exact SelL.self | apply SelL.cons | exact Sel.here | apply Sel.there | apply SelL.skip)) (out_specR q10 ⟨2, [[97], [98], [99]], 0, 0, [], false⟩ (by refine ⟨⟨by decide, by decide⟩, ⟨by decide, by decide⟩, ⟨by decide, by decide⟩, by decide, by decide⟩))) (by rfl) (by decide) ?_
      rintro ⟨ad44, len44, cap44, vs44⟩ ⟨hl44, hv44⟩
      rw [show outM ⟨2, [[97], [98], [99]], 0, 0, [], false⟩ = ([⟨1, 0, [97]⟩, ⟨2, 0, [98]⟩], ⟨2, [[97], [98], [99]], 0, 0, [], false⟩) from by rfl] at hl44 ⊢
      dsimp only at hl44 hv44 ⊢
      obtain rfl : len44 = 2 := hl44
      try dsimp only
      refine WL.yld (wanted_plain (by rfl)) (yld_assign (by rfl)) (by rfl) (by decide) ?_
      refine WL.done ?_
      refine WK.seq ?_
      refine WK.seq ?_
      refine WK.region ?_
      refine WL.yld (wanted_plain (by rfl)) (yld_move (by rfl)) (by rfl) (by decide) ?_
      refine WL.yld (wanted_plain (by rfl)) (yld_len (by rfl) (by exact Try.runUnderlying35)) (by rfl) (by decide) ?_
      refine WL.yld (wanted_plain (by rfl)) (yld_neq (by rfl) (by rfl)) (by rfl) (by decide) ?_
      refine WL.yld (wanted_plain (by rfl)) (yld_move (by rfl)) (by rfl) (by decide) ?_
      refine WL.split (d := 48) (by rfl) (fun hc48 => ?_) (fun hc48 => ?_)
      · skip
        have hc48 := of_decide_eq_true hc48
        first | omega | exact absurd rfl hc48 | (simp at hc48; done) | (exact absurd hc48 (by decide))
      · skip
        have hc48 := of_decide_eq_false hc48
        refine WL.yld (wanted_some (by rfl) (by rfl) (by rfl)) (yld_move (by rfl)) (by rfl) (by decide) ?_
        refine WL.yld (wanted_some (by rfl) (by rfl) (by rfl)) (yld_indexAddrS (by rfl) (by rfl) (by exact Try.runUnderlying35) (by exact Try.sizeOf44) (by repeat (first | exact .here | apply Sel.there)) (0) (by first | rfl | omega) (by omega) (by omega) (by rfl)) (by rfl) (by decide) ?_
        refine WL.yld (wanted_some (by rfl) (by rfl) (by rfl)) (yld_fieldAddrS (by rfl) (by exact Try.runUnderlying44) (by rfl) (by exact Try.sizeOf3) (by rfl) (by rfl)) (by rfl) (by decide) ?_
        refine WL.yld (wanted_some (by rfl) (by rfl) (by rfl)) (yld_loadS (by rfl) (by exact Try.isAgg3) (by repeat (first | exact .here | apply Sel.there)) (by exact pktC_seq (j := 0) rfl (by omega) rfl)) (by rfl) (by decide) ?_
        refine WL.yld (wanted_some (by rfl) (by rfl) (by rfl)) (yld_neq (by rfl) (by rfl)) (by rfl) (by decide) ?_
        refine WL.yld (wanted_plain (by rfl)) (yld_pick_false (by rfl) (by rfl)) (by rfl) (by decide) ?_
        refine WL.yld (wanted_plain (by rfl)) (yld_move (by rfl)) (by rfl) (by decide) ?_
        refine WL.split (d := 55) (by rfl) (fun hc55 => ?_) (fun hc55 => ?_)
        · skip
          have hc55 := of_decide_eq_true hc55
          first | omega | exact absurd rfl hc55 | (simp at hc55; done) | (exact absurd hc55 (by decide))
        · skip
          have hc55 := of_decide_eq_false hc55
          refine WL.yld (wanted_some (by rfl) (by rfl) (by rfl)) (yld_move (by rfl)) (by rfl) (by decide) ?_
          refine WL.yld (wanted_some (by rfl) (by rfl) (by rfl)) (yld_indexAddrS (by rfl) (by rfl) (by exact Try.runUnderlying35) (by exact Try.sizeOf44) (by repeat (first | exact .here | apply Sel.there)) (1) (by first | rfl | omega) (by omega) (by omega) (by rfl)) (by rfl) (by decide) ?_
          refine WL.yld (wanted_some (by rfl) (by rfl) (by rfl)) (yld_fieldAddrS (by rfl) (by exact Try.runUnderlying44) (by rfl) (by exact Try.sizeOf3) (by rfl) (by rfl)) (by rfl) (by decide) ?_
          refine WL.yld (wanted_some (by rfl) (by rfl) (by rfl)) (yld_loadS (by rfl) (by exact Try.isAgg3) (by repeat (first | exact .here | apply Sel.there)) (by exact pktC_seq (j := 1) rfl (by omega) rfl)) (by rfl) (by decide) ?_
          refine WL.yld (wanted_some (by rfl) (by rfl) (by rfl)) (yld_neq (by rfl) (by rfl)) (by rfl) (by decide) ?_
          refine WL.yld (wanted_plain (by rfl)) (yld_pick_false (by rfl) (by rfl)) (by rfl) (by decide) ?_
          refine WL.done ?_
          refine WK.cond (by rfl) (fun hc61 => ?_) (fun hc61 => ?_)
          · skip
            have hc61 := of_decide_eq_true hc61
            first | omega | exact absurd rfl hc61 | (simp at hc61; done) | (exact absurd hc61 (by decide))
          · skip
            have hc61 := of_decide_eq_false hc61
            refine WK.skip ?_
            refine WK.seq ?_
            refine WK.region ?_
            refine WL.yld (wanted_plain (by rfl)) (yld_move (by rfl)) (by rfl) (by decide) ?_
            refine WL.yld (wanted_plain (by rfl)) (yld_move (by rfl)) (by rfl) (by decide) ?_
            refine WL.yld (wanted_plain (by rfl)) (yld_indexAddrS (by rfl) (by rfl) (by exact Try.runUnderlying35) (by exact Try.sizeOf44) (by repeat (first | exact .here | apply Sel.there)) (1) (by first | rfl | omega) (by omega) (by omega) (by rfl)) (by rfl) (by decide) ?_
            refine WL.openS (fun w s => Sat.allByt (k := 1) (bs := [98]) (by rfl) (s.sel1 (A := allR (byt 5 false) vs44 [[97], [98]]) (by repeat (first | exact .here | apply Sel.there)))) ?_
            rintro ⟨ad65, len65, cap65⟩ ⟨hv65, hl65⟩
            dsimp only at hv65 hl65
            subst hl65
            refine WL.yld (wanted_plain (by rfl)) (yld_loadSA (by rfl) (by exact Try.isAgg44) (by exact Try.sizeOf44) (by repeat (first | exact .here | apply Sel.there)) (by exact pktC_cells (j := 1) rfl hv65)) (by rfl) (by decide) ?_
            refine WL.eff (wanted_plain (by rfl)) (eff_call (by exact Try.call19) (by repeat (first | exact Evs.nil | apply Evs.cons | rfl)) (by repeat (first | exact SelL.nil | exact SelL.self | apply SelL.cons | exact Sel.here | apply Sel.there | apply SelL.skip)) (in_spec q14 (newE 2) (by refine ⟨⟨by decide, by decide⟩, ⟨by decide, by decide⟩, by decide, by decide⟩) ⟨2, 0, [98]⟩ false ad65 cap65)) (by rfl) (by decide) ?_
            rintro ⟨ad66, len66, cap66, vs66⟩ hl66
            rw [show inM (newE 2) ⟨2, 0, [98]⟩ = ([], ⟨2, [], 0, 0, [(2, [98])], true⟩) from by rfl] at hl66 ⊢
            dsimp only at hl66 ⊢
            obtain rfl : len66 = 0 := hl66
            try dsimp only
            refine WL.yld (wanted_plain (by rfl)) (yld_assign (by rfl)) (by rfl) (by decide) ?_
            refine WL.done ?_
            refine WK.seq ?_
            refine WK.region ?_
            refine WL.yld (wanted_plain (by rfl)) (yld_move (by rfl)) (by rfl) (by decide) ?_
            refine WL.yld (wanted_plain (by rfl)) (yld_move (by rfl)) (by rfl) (by decide) ?_
            refine WL.yld (wanted_plain (by rfl)) (yld_indexAddrS (by rfl) (by rfl) (by exact Try.runUnderlying35) (by exact Try.sizeOf44) (by repeat (first | exact .here | apply Sel.there)) (0) (by first | rfl | omega) (by omega) (by omega) (by rfl)) (by rfl) (by decide) ?_
            refine WL.openS (fun w s => Sat.allByt (k := 0) (bs := [97]) (by rfl) (s.sel1 (A := allR (byt 5 false) vs44 [[97], [98]]) (by repeat (first | exact .here | apply Sel.there)))) ?_
            rintro ⟨ad70, len70, cap70⟩ ⟨hv70, hl70⟩
            dsimp only at hv70 hl70
            subst hl70
            refine WL.yld (wanted_plain (by rfl)) (yld_loadSA (by rfl) (by exact Try.isAgg44) (by exact Try.sizeOf44) (by repeat (first | exact .here | apply Sel.there)) (by exact pktC_cells (j := 0) rfl hv70)) (by rfl) (by decide) ?_
            refine WL.eff (wanted_plain (by rfl)) (eff_call (by exact Try.call19) (by repeat (first | exact Evs.nil | apply Evs.cons | rfl)) (by repeat (first | exact SelL.nil | exact SelL.self | apply SelL.cons | exact Sel.here | apply Sel.there | apply SelL.skip)) (in_spec q14 ⟨2, [], 0, 0, [(2, [98])], true⟩ (by refine ⟨⟨by decide, by decide⟩, ⟨by decide, by decide⟩, by decide, by decide⟩) ⟨1, 0, [97]⟩ false ad70 cap70)) (by rfl) (by decide) ?_
            rintro ⟨ad71, len71, cap71, vs71⟩ hl71
            rw [show inM ⟨2, [], 0, 0, [(2, [98])], true⟩ ⟨1, 0, [97]⟩ = ([[97], [98]], ⟨2, [], 0, 2, [], true⟩) from by rfl] at hl71 ⊢
            dsimp only at hl71 ⊢
            obtain rfl : len71 = 2 := hl71
            try dsimp only
            refine WL.yld (wanted_plain (by rfl)) (yld_assign (by rfl)) (by rfl) (by decide) ?_
            refine WL.done ?_
            refine WK.seq ?_
            refine WK.region ?_
            refine WL.yld (wanted_plain (by rfl)) (yld_move (by rfl)) (by rfl) (by decide) ?_
            refine WL.eff (wanted_plain (by rfl)) (eff_call (by exact Try.call15) (by repeat (first | exact Evs.nil | apply Evs.cons | rfl)) (by repeat (first | exact SelL.nil | exact SelL.self | apply SelL.cons | exact Sel.here | apply Sel.there | apply SelL.skip)) (out_specR q14 ⟨2, [], 0, 2, [], true⟩ (by refine ⟨⟨by decide, by decide⟩, ⟨by decide, by decide⟩, ⟨by decide, by decide⟩, by decide, by decide⟩))) (by rfl) (by decide) ?_
            rintro ⟨ad73, len73, cap73, vs73⟩ ⟨hl73, hv73⟩
            rw [show outM ⟨2, [], 0, 2, [], true⟩ = ([⟨0, 2, []⟩], ⟨2, [], 0, 2, [], false⟩) from by rfl] at hl73 ⊢
            dsimp only at hl73 hv73 ⊢
            obtain rfl : len73 = 1 := hl73
            try dsimp only
            refine WL.yld (wanted_plain (by rfl)) (yld_assign (by rfl)) (by rfl) (by decide) ?_
            refine WL.done ?_
            refine WK.seq ?_
            refine WK.seq ?_
            refine WK.region ?_
            refine WL.yld (wanted_plain (by rfl)) (yld_move (by rfl)) (by rfl) (by decide) ?_
            refine WL.yld (wanted_plain (by rfl)) (yld_len (by rfl) (by exact Try.runUnderlying42)) (by rfl) (by decide) ?_
            refine WL.yld (wanted_plain (by rfl)) (yld_neq (by rfl) (by rfl)) (by rfl) (by decide) ?_
            refine WL.yld (wanted_plain (by rfl)) (yld_move (by rfl)) (by rfl) (by decide) ?_
            refine WL.split (d := 77) (by rfl) (fun hc77 => ?_) (fun hc77 => ?_)
            · skip
              have hc77 := of_decide_eq_true hc77
              first | omega | exact absurd rfl hc77 | (simp at hc77; done) | (exact absurd hc77 (by decide))
            · skip
              have hc77 := of_decide_eq_false hc77
              refine WL.yld (wanted_some (by rfl) (by rfl) (by rfl)) (yld_move (by rfl)) (by rfl) (by decide) ?_
              refine WL.yld (wanted_some (by rfl) (by rfl) (by rfl)) (yld_len (by rfl) (by exact Try.runUnderlying42)) (by rfl) (by decide) ?_
              refine WL.yld (wanted_some (by rfl) (by rfl) (by rfl)) (yld_neq (by rfl) (by rfl)) (by rfl) (by decide) ?_
              refine WL.yld (wanted_plain (by rfl)) (yld_pick_false (by rfl) (by rfl)) (by rfl) (by decide) ?_
              refine WL.yld (wanted_plain (by rfl)) (yld_move (by rfl)) (by rfl) (by decide) ?_
              refine WL.split (d := 82) (by rfl) (fun hc82 => ?_) (fun hc82 => ?_)
              · skip
                have hc82 := of_decide_eq_true hc82
                first | omega | exact absurd rfl hc82 | (simp at hc82; done) | (exact absurd hc82 (by decide))
              · skip
                have hc82 := of_decide_eq_false hc82
                refine WL.yld (wanted_some (by rfl) (by rfl) (by rfl)) (yld_move (by rfl)) (by rfl) (by decide) ?_
                refine WL.yld (wanted_some (by rfl) (by rfl) (by rfl)) (yld_indexAddrS (by rfl) (by rfl) (by exact Try.runUnderlying42) (by exact Try.sizeOf31) (by repeat (first | exact .here | apply Sel.there)) (1) (by first | rfl | omega) (by omega) (by omega) (by exact Nat.mul_one _)) (by rfl) (by decide) ?_
                refine WL.openS (fun w s => Sat.allByt (k := 1) (bs := [98]) (by rfl) (s.sel1 (A := allR (byt 5 false) vs71 [[97], [98]]) (by repeat (first | exact .here | apply Sel.there)))) ?_
                rintro ⟨ad85, len85, cap85⟩ ⟨hv85, hl85⟩
                dsimp only at hv85 hl85
                subst hl85
                refine WL.yld (wanted_some (by rfl) (by rfl) (by rfl)) (yld_loadS (by rfl) (by exact Try.isAgg31) (by repeat (first | exact .here | apply Sel.there)) (by exact hv85)) (by rfl) (by decide) ?_
                refine WL.yld (wanted_some (by rfl) (by rfl) (by rfl)) (yld_bytesToString (bs := [98]) (by rfl) (by exact Try.runUnderlying31) (by exact Try.runUnderlying5) (by exact Try.runUnderlying9) (by repeat (first | exact .here | apply Sel.there))) (by rfl) (by decide) ?_
                refine WL.yld (wanted_some (by rfl) (by rfl) (by rfl)) (yld_strNeq (by rfl) (by rfl)) (by rfl) (by decide) ?_
                refine WL.yld (wanted_plain (by rfl)) (yld_pick_false (by rfl) (by rfl)) (by rfl) (by decide) ?_
                refine WL.yld (wanted_plain (by rfl)) (yld_move (by rfl)) (by rfl) (by decide) ?_
                refine WL.split (d := 89) (by rfl) (fun hc89 => ?_) (fun hc89 => ?_)
                · skip
                  have hc89 := of_decide_eq_true hc89
                  first | omega | exact absurd rfl hc89 | (simp at hc89; done) | (exact absurd hc89 (by decide))
                · skip
                  have hc89 := of_decide_eq_false hc89
                  refine WL.yld (wanted_some (by rfl) (by rfl) (by rfl)) (yld_move (by rfl)) (by rfl) (by decide) ?_
                  refine WL.yld (wanted_some (by rfl) (by rfl) (by rfl)) (yld_len (by rfl) (by exact Try.runUnderlying35)) (by rfl) (by decide) ?_
                  refine WL.yld (wanted_some (by rfl) (by rfl) (by rfl)) (yld_neq (by rfl) (by rfl)) (by rfl) (by decide) ?_
                  refine WL.yld (wanted_plain (by rfl)) (yld_pick_false (by rfl) (by rfl)) (by rfl) (by decide) ?_
                  refine WL.yld (wanted_plain (by rfl)) (yld_move (by rfl)) (by rfl) (by decide) ?_
                  refine WL.split (d := 94) (by rfl) (fun hc94 => ?_) (fun hc94 => ?_)
                  · skip
                    have hc94 := of_decide_eq_true hc94
                    first | omega | exact absurd rfl hc94 | (simp at hc94; done) | (exact absurd hc94 (by decide))
                  · skip
                    have hc94 := of_decide_eq_false hc94
                    refine WL.yld (wanted_some (by rfl) (by rfl) (by rfl)) (yld_move (by rfl)) (by rfl) (by decide) ?_
                    refine WL.yld (wanted_some (by rfl) (by rfl) (by rfl)) (yld_indexAddrS (by rfl) (by rfl) (by exact Try.runUnderlying35) (by exact Try.sizeOf44) (by repeat (first | exact .here | apply Sel.there)) (0) (by first | rfl | omega) (by omega) (by omega) (by rfl)) (by rfl) (by decide) ?_
                    refine WL.yld (wanted_some (by rfl) (by rfl) (by rfl)) (yld_fieldAddrS (by rfl) (by exact Try.runUnderlying44) (by rfl) (by exact Try.sizeOf3) (by rfl) (by rfl)) (by rfl) (by decide) ?_
                    refine WL.yld (wanted_some (by rfl) (by rfl) (by rfl)) (yld_loadS (by rfl) (by exact Try.isAgg3) (by repeat (first | exact .here | apply Sel.there)) (by exact pktC_ack (j := 0) rfl (by omega) rfl)) (by rfl) (by decide) ?_
                    refine WL.yld (wanted_some (by rfl) (by rfl) (by rfl)) (yld_neq (by rfl) (by rfl)) (by rfl) (by decide) ?_
                    refine WL.yld (wanted_plain (by rfl)) (yld_pick_false (by rfl) (by rfl)) (by rfl) (by decide) ?_
                    refine WL.yld (wanted_plain (by rfl)) (yld_move (by rfl)) (by rfl) (by decide) ?_
                    refine WL.split (d := 101) (by rfl) (fun hc101 => ?_) (fun hc101 => ?_)
                    · skip
                      have hc101 := of_decide_eq_true hc101
                      first | omega | exact absurd rfl hc101 | (simp at hc101; done) | (exact absurd hc101 (by decide))
                    · skip
                      have hc101 := of_decide_eq_false hc101
                      refine WL.yld (wanted_some (by rfl) (by rfl) (by rfl)) (yld_move (by rfl)) (by rfl) (by decide) ?_
                      refine WL.yld (wanted_some (by rfl) (by rfl) (by rfl)) (yld_indexAddrS (by rfl) (by rfl) (by exact Try.runUnderlying35) (by exact Try.sizeOf44) (by repeat (first | exact .here | apply Sel.there)) (0) (by first | rfl | omega) (by omega) (by omega) (by rfl)) (by rfl) (by decide) ?_
                      refine WL.yld (wanted_some (by rfl) (by rfl) (by rfl)) (yld_fieldAddrS (by rfl) (by exact Try.runUnderlying44) (by rfl) (by exact Try.sizeOf3) (by rfl) (by rfl)) (by rfl) (by decide) ?_
                      refine WL.yld (wanted_some (by rfl) (by rfl) (by rfl)) (yld_loadS (by rfl) (by exact Try.isAgg3) (by repeat (first | exact .here | apply Sel.there)) (by exact pktC_seq (j := 0) rfl (by omega) rfl)) (by rfl) (by decide) ?_
                      refine WL.yld (wanted_some (by rfl) (by rfl) (by rfl)) (yld_neq (by rfl) (by rfl)) (by rfl) (by decide) ?_
                      refine WL.yld (wanted_plain (by rfl)) (yld_pick_false (by rfl) (by rfl)) (by rfl) (by decide) ?_
                      refine WL.done ?_
                      refine WK.cond (by rfl) (fun hc107 => ?_) (fun hc107 => ?_)
                      · skip
                        have hc107 := of_decide_eq_true hc107
                        first | omega | exact absurd rfl hc107 | (simp at hc107; done) | (exact absurd hc107 (by decide))
                      · skip
                        have hc107 := of_decide_eq_false hc107
                        refine WK.skip ?_
                        refine WK.seq ?_
                        refine WK.region ?_
                        refine WL.yld (wanted_plain (by rfl)) (yld_move (by rfl)) (by rfl) (by decide) ?_
                        refine WL.yld (wanted_plain (by rfl)) (yld_move (by rfl)) (by rfl) (by decide) ?_
                        refine WL.yld (wanted_plain (by rfl)) (yld_indexAddrS (by rfl) (by rfl) (by exact Try.runUnderlying35) (by exact Try.sizeOf44) (by repeat (first | exact .here | apply Sel.there)) (0) (by first | rfl | omega) (by omega) (by omega) (by rfl)) (by rfl) (by decide) ?_
                        refine WL.openS (fun w s => Sat.allByt (k := 0) (bs := []) (by rfl) (s.sel1 (A := allR (byt 5 false) vs73 [[]]) (by repeat (first | exact .here | apply Sel.there)))) ?_
                        rintro ⟨ad111, len111, cap111⟩ ⟨hv111, hl111⟩
                        dsimp only at hv111 hl111
                        subst hl111
                        refine WL.yld (wanted_plain (by rfl)) (yld_loadSA (by rfl) (by exact Try.isAgg44) (by exact Try.sizeOf44) (by repeat (first | exact .here | apply Sel.there)) (by exact pktC_cells (j := 0) rfl hv111)) (by rfl) (by decide) ?_
                        refine WL.eff (wanted_plain (by rfl)) (eff_call (by exact Try.call19) (by repeat (first | exact Evs.nil | apply Evs.cons | rfl)) (by repeat (first | exact SelL.nil | exact SelL.self | apply SelL.cons | exact Sel.here | apply Sel.there | apply SelL.skip)) (in_spec q10 ⟨2, [[97], [98], [99]], 0, 0, [], false⟩ (by refine ⟨⟨by decide, by decide⟩, ⟨by decide, by decide⟩, by decide, by decide⟩) ⟨0, 2, []⟩ false ad111 cap111)) (by rfl) (by decide) ?_
                        rintro ⟨ad112, len112, cap112, vs112⟩ hl112
                        rw [show inM ⟨2, [[97], [98], [99]], 0, 0, [], false⟩ ⟨0, 2, []⟩ = ([], ⟨2, [[99]], 2, 0, [], false⟩) from by rfl] at hl112 ⊢
                        dsimp only at hl112 ⊢
                        obtain rfl : len112 = 0 := hl112
                        try dsimp only
                        refine WL.done ?_
                        refine WK.seq ?_
                        refine WK.region ?_
                        refine WL.yld (wanted_plain (by rfl)) (yld_move (by rfl)) (by rfl) (by decide) ?_
                        refine WL.eff (wanted_plain (by rfl)) (eff_call (by exact Try.call15) (by repeat (first | exact Evs.nil | apply Evs.cons | rfl)) (by repeat (first | exact SelL.nil | exact SelL.self | apply SelL.cons | exact Sel.here | apply Sel.there | apply SelL.skip)) (out_specR q10 ⟨2, [[99]], 2, 0, [], false⟩ (by refine ⟨⟨by decide, by decide⟩, ⟨by decide, by decide⟩, ⟨by decide, by decide⟩, by decide, by decide⟩))) (by rfl) (by decide) ?_
                        rintro ⟨ad114, len114, cap114, vs114⟩ ⟨hl114, hv114⟩
                        rw [show outM ⟨2, [[99]], 2, 0, [], false⟩ = ([⟨3, 0, [99]⟩], ⟨2, [[99]], 2, 0, [], false⟩) from by rfl] at hl114 ⊢
                        dsimp only at hl114 hv114 ⊢
                        obtain rfl : len114 = 1 := hl114
                        try dsimp only
                        refine WL.yld (wanted_plain (by rfl)) (yld_assign (by rfl)) (by rfl) (by decide) ?_
                        refine WL.done ?_
                        refine WK.seq ?_
                        refine WK.region ?_
                        refine WL.yld (wanted_plain (by rfl)) (yld_move (by rfl)) (by rfl) (by decide) ?_
                        refine WL.yld (wanted_plain (by rfl)) (yld_len (by rfl) (by exact Try.runUnderlying35)) (by rfl) (by decide) ?_
                        refine WL.yld (wanted_plain (by rfl)) (yld_eql (by rfl) (by rfl)) (by rfl) (by decide) ?_
                        refine WL.yld (wanted_plain (by rfl)) (yld_move (by rfl)) (by rfl) (by decide) ?_
                        refine WL.split (d := 118) (by rfl) (fun hc118 => ?_) (fun hc118 => ?_)
                        · skip
                          have hc118 := of_decide_eq_true hc118
                          refine WL.yld (wanted_some (by rfl) (by rfl) (by rfl)) (yld_move (by rfl)) (by rfl) (by decide) ?_
                          refine WL.yld (wanted_some (by rfl) (by rfl) (by rfl)) (yld_indexAddrS (by rfl) (by rfl) (by exact Try.runUnderlying35) (by exact Try.sizeOf44) (by repeat (first | exact .here | apply Sel.there)) (0) (by first | rfl | omega) (by omega) (by omega) (by rfl)) (by rfl) (by decide) ?_
                          refine WL.yld (wanted_some (by rfl) (by rfl) (by rfl)) (yld_fieldAddrS (by rfl) (by exact Try.runUnderlying44) (by rfl) (by exact Try.sizeOf3) (by rfl) (by rfl)) (by rfl) (by decide) ?_
                          refine WL.yld (wanted_some (by rfl) (by rfl) (by rfl)) (yld_loadS (by rfl) (by exact Try.isAgg3) (by repeat (first | exact .here | apply Sel.there)) (by exact pktC_seq (j := 0) rfl (by omega) rfl)) (by rfl) (by decide) ?_
                          refine WL.yld (wanted_some (by rfl) (by rfl) (by rfl)) (yld_eql (by rfl) (by rfl)) (by rfl) (by decide) ?_
                          refine WL.yld (wanted_plain (by rfl)) (yld_pick_true (by rfl) (by rfl)) (by rfl) (by decide) ?_
                          refine WL.yld (wanted_plain (by rfl)) (yld_move (by rfl)) (by rfl) (by decide) ?_
                          refine WL.split (d := 125) (by rfl) (fun hc125 => ?_) (fun hc125 => ?_)
                          · skip
                            have hc125 := of_decide_eq_true hc125
                            refine WL.yld (wanted_some (by rfl) (by rfl) (by rfl)) (yld_move (by rfl)) (by rfl) (by decide) ?_
                            refine WL.yld (wanted_some (by rfl) (by rfl) (by rfl)) (yld_indexAddrS (by rfl) (by rfl) (by exact Try.runUnderlying35) (by exact Try.sizeOf44) (by repeat (first | exact .here | apply Sel.there)) (0) (by first | rfl | omega) (by omega) (by omega) (by rfl)) (by rfl) (by decide) ?_
                            refine WL.yld (wanted_some (by rfl) (by rfl) (by rfl)) (yld_fieldAddrS (by rfl) (by exact Try.runUnderlying44) (by rfl) (by exact Try.sizeOf31) (by rfl) (by rfl)) (by rfl) (by decide) ?_
                            refine WL.openS (fun w s => Sat.allByt (k := 0) (bs := [99]) (by rfl) (s.sel1 (A := allR (byt 5 false) vs114 [[99]]) (by repeat (first | exact .here | apply Sel.there)))) ?_
                            rintro ⟨ad129, len129, cap129⟩ ⟨hv129, hl129⟩
                            dsimp only at hv129 hl129
                            subst hl129
                            refine WL.yld (wanted_some (by rfl) (by rfl) (by rfl)) (yld_loadS (by rfl) (by exact Try.isAgg31) (by repeat (first | exact .here | apply Sel.there)) (by exact pktC_b (j := 0) rfl hv129 rfl)) (by rfl) (by decide) ?_
                            refine WL.yld (wanted_some (by rfl) (by rfl) (by rfl)) (yld_bytesToString (bs := [99]) (by rfl) (by exact Try.runUnderlying31) (by exact Try.runUnderlying5) (by exact Try.runUnderlying9) (by repeat (first | exact .here | apply Sel.there))) (by rfl) (by decide) ?_
                            refine WL.yld (wanted_some (by rfl) (by rfl) (by rfl)) (yld_strEql (by rfl) (by rfl)) (by rfl) (by decide) ?_
                            refine WL.yld (wanted_plain (by rfl)) (yld_pick_true (by rfl) (by rfl)) (by rfl) (by decide) ?_
                            refine WL.yld (wanted_plain (by rfl)) (yld_move (by rfl)) (by rfl) (by decide) ?_
                            refine WL.split (d := 133) (by rfl) (fun hc133 => ?_) (fun hc133 => ?_)
                            · skip
                              have hc133 := of_decide_eq_true hc133
                              refine WL.yld (wanted_some (by rfl) (by rfl) (by rfl)) (yld_move (by rfl)) (by rfl) (by decide) ?_
                              refine WL.eff (wanted_some (by rfl) (by rfl) (by rfl)) (eff_call (by exact Try.call22) (by repeat (first | exact Evs.nil | apply Evs.cons | rfl)) (by repeat (first | exact SelL.nil | exact SelL.self | apply SelL.cons | exact Sel.here | apply Sel.there | apply SelL.skip)) (waiting_spec q10 ⟨2, [[99]], 2, 0, [], false⟩)) (by rfl) (by decide) ?_
                              rintro _ -
                              try dsimp only
                              refine WL.yld (wanted_some (by rfl) (by rfl) (by rfl)) (yld_eql (by rfl) (by rfl)) (by rfl) (by decide) ?_
                              refine WL.yld (wanted_plain (by rfl)) (yld_pick_true (by rfl) (by rfl)) (by rfl) (by decide) ?_
                              refine WL.yld (wanted_plain (by rfl)) (yld_assign (by rfl)) (by rfl) (by decide) ?_
                              refine WL.done ?_
                              refine WK.ret ?_
                              repeat (first | refine RQ.block ?_ | refine RQ.then_ ?_)
                              refine RQ.body (results1 (by rfl) (by rfl)) (fun w s => ?_)
                              exact ⟨(), trivial, by rfl, s.toCs (by repeat (first | exact SelL.nil | exact SelL.self | apply SelL.cons | exact Sel.here | apply Sel.there | apply SelL.skip))⟩
                            · skip
                              have hc133 := of_decide_eq_false hc133
                              first | omega | exact absurd rfl hc133 | (simp at hc133; done) | (exact absurd hc133 (by decide))
                          · skip
                            have hc125 := of_decide_eq_false hc125
                            first | omega | exact absurd rfl hc125 | (simp at hc125; done) | (exact absurd hc125 (by decide))
                        · skip
                          have hc118 := of_decide_eq_false hc118
                          first | omega | exact absurd rfl hc118 | (simp at hc118; done) | (exact absurd hc118 (by decide))
end Go.Proofs.Ytnknclbiamhnaaa
