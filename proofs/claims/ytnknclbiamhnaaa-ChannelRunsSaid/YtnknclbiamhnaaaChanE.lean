import Derived.Test.YtnknclbiamhnaaaChanD
namespace Go.Proofs.Ytnknclbiamhnaaa
set_option linter.unusedVariables false
set_option linter.unusedSimpArgs false
open Go Go.Sep
attribute [local irreducible] row sl mapO held exL allR byt mapI slr endL
/-! ### Runs: the channel and its model -/
structure Rel (i : Nat) (e : EndM) (r : RM) (a : Nat) : Prop where
  win : e.window = r.window
  win2 : 1 ≤ r.window ∧ r.window ≤ 16
  ack : e.acked = r.acked
  got : e.delivered = r.got
  held : e.held = r.held
  owing : e.owing = r.owing
  a1 : r.acked = a
  a2 : a ≤ r.sent.length
  wait : e.waiting = r.sent.drop a
  g0 : 0 ≤ r.got
  g1 : r.got + r.held.length ≤ i
  next : mget r.held (r.got + 1) = none
  sent : r.sent.length ≤ i
  len : ∀ b ∈ r.sent, b.length ≤ 65536
  len2 : ∀ p ∈ r.held, p.2.length ≤ 65536

theorem Rel.mono {i : Nat} {e : EndM} {r : RM} {a : Nat} (h : Rel i e r a) : Rel (i + 1) e r a :=
  ⟨h.win, h.win2, h.ack, h.got, h.held, h.owing, h.a1, h.a2, h.wait, h.g0, by have := h.g1; omega, h.next, by have := h.sent; omega, h.len, h.len2⟩
theorem Rel.start {w : Int} (h : 1 ≤ w ∧ w ≤ 16) : Rel 0 (newE w) ⟨w, [], 0, 0, [], false⟩ 0 :=
  ⟨rfl, h, rfl, rfl, rfl, rfl, rfl, Nat.le_refl _, rfl, Int.le_refl _, Int.le_refl _, rfl, Nat.le_refl _, by simp, by simp⟩
theorem Rel.okE {i : Nat} {e : EndM} {r : RM} {a : Nat} (h : Rel i e r a) (hi : i ≤ 1000) : EndOk e := by
  obtain ⟨h1, h2, h3, h4, h5, h6, h7, h8, h9, h10, h11, h12, h13, h14, h15⟩ := h
  exact ⟨by omega, by omega, by omega, by rw [h9, List.length_drop]; omega, fun b hb => h14 b (List.mem_of_mem_drop (h9 ▸ hb))⟩
theorem Rel.inok {i : Nat} {e : EndM} {r : RM} {a : Nat} (h : Rel i e r a) (hi : i ≤ 1000) : InOk e := by
  obtain ⟨h1, h2, h3, h4, h5, h6, h7, h8, h9, h10, h11, h12, h13, h14, h15⟩ := h
  exact ⟨by omega, by rw [h5]; omega, by rw [h9, List.length_drop]; omega, by rw [h5]; omega⟩
theorem Rel.send {i : Nat} {e : EndM} {r : RM} {a : Nat} {b : List UInt8} (h : Rel i e r a) (hi : i < 1000) (hb : b.length ≤ 65536) :
    sendM e b = (0, { e with waiting := e.waiting ++ [b] }) ∧ sendR r b = (0, { r with sent := r.sent ++ [b] }) ∧ Rel (i + 1) { e with waiting := e.waiting ++ [b] } { r with sent := r.sent ++ [b] } a := by
  obtain ⟨h1, h2, h3, h4, h5, h6, h7, h8, h9, h10, h11, h12, h13, h14, h15⟩ := h
  refine ⟨if_neg (by rw [h9, List.length_drop]; omega), if_neg (by omega), ⟨h1, h2, h3, h4, h5, h6, h7, by simp; omega, ?_, h10, by simp only; omega, h12, by simp; omega, ?_, h15⟩⟩
  · simp only; rw [h9, List.drop_append_of_le_length h8]
  · intro c hc
    rcases List.mem_append.1 hc with hc | hc
    · exact h14 c hc
    · simp at hc; subst hc; exact hb
theorem Rel.out {i : Nat} {e : EndM} {r : RM} {a : Nat} (h : Rel i e r a) : (outM e).1 = (outR r a).1 ∧ Rel (i + 1) { e with owing := false } { r with owing := false } a ∧ ∀ p ∈ (outR r a).1, p.b.length ≤ 65536 := by
  obtain ⟨h1, h2, h3, h4, h5, h6, h7, h8, h9, h10, h11, h12, h13, h14, h15⟩ := h
  have hw : e.waiting.take (outN e) = (r.sent.drop a).take r.window.toNat := by
    rw [h9, List.take_eq_take_iff]
    unfold outN
    rw [h9, h1]
    omega
  have hL : outL e = outRL r a := by unfold outL outRL; rw [hw, h3, h4]
  have hz : outN e = 0 ↔ outRL r a = [] := by
    rw [← hL, ← outL_len, List.length_eq_zero_iff]
  refine ⟨?_, ⟨h1, h2, h3, h4, h5, rfl, h7, h8, h9, h10, by simp only; omega, h12, by simp only; omega, h14, h15⟩, ?_⟩
  · unfold outM outR
    simp only [hz, h6, h4, hL]
  · intro p hp
    unfold outR at hp
    simp only at hp
    split at hp
    · simp at hp; subst hp; simp
    · have : p.b ∈ (outRL r a).map (·.b) := List.mem_map_of_mem hp
      unfold outRL at this
      rw [pkts_b] at this
      exact h14 _ (List.mem_of_mem_drop (List.mem_of_mem_take this))

theorem deliver_end : ∀ (n : Nat) (d : Int) (h : List (Int × List UInt8)), h.length ≤ n → mget (deliver n d h).2.2 ((deliver n d h).2.1 + 1) = none
  | 0, d, h, hn => by
    have : h = [] := List.eq_nil_of_length_eq_zero (by omega)
    subst this; rfl
  | n + 1, d, h, hn => by
    rcases hg : mget h (d + 1) with _ | b
    · simp [deliver, hg]
    · have hl := mdel_length hg
      have := deliver_end n (d + 1) (mdel h (d + 1)) (by omega)
      simpa [deliver, hg] using this
theorem deliver_sum : ∀ (n : Nat) (d : Int) (h : List (Int × List UInt8)), d ≤ (deliver n d h).2.1 ∧ (deliver n d h).2.1 + (deliver n d h).2.2.length = d + h.length
  | 0, d, h => by simp [deliver]
  | n + 1, d, h => by
    rcases hg : mget h (d + 1) with _ | b
    · simp [deliver, hg]
    · have hl := mdel_length hg
      obtain ⟨h1, h2⟩ := deliver_sum n (d + 1) (mdel h (d + 1))
      simp only [deliver, hg]
      omega
theorem deliver_mem : ∀ (n : Nat) (d : Int) (h : List (Int × List UInt8)), (∀ b ∈ (deliver n d h).1, ∃ p ∈ h, p.2 = b) ∧ ∀ p ∈ (deliver n d h).2.2, p ∈ h
  | 0, d, h => by simp [deliver]
  | n + 1, d, h => by
    rcases hg : mget h (d + 1) with _ | b
    · simp [deliver, hg]
    · obtain ⟨h1, h2⟩ := deliver_mem n (d + 1) (mdel h (d + 1))
      simp only [deliver, hg]
      refine ⟨fun c hc => ?_, fun p hp => mem_mdel (h2 p hp)⟩
      rcases List.mem_cons.1 hc with hc | hc
      · subst hc; exact ⟨_, mem_mget hg, rfl⟩
      · obtain ⟨p, hp, e⟩ := h1 c hc
        exact ⟨p, mem_mdel hp, e⟩

theorem Rel.inp {i : Nat} {e : EndM} {r : RM} {a : Nat} {p : Pkt} (h : Rel i e r a) (hi : i ≤ 1000) : (inM e p).1 = (inR r p).1 ∧ (inR r p).1.length ≤ 100000 ∧ (∀ b ∈ (inR r p).1, b.length ≤ 65536) ∧ ∃ a', Rel (i + 1) (inM e p).2 (inR r p).2 a' := by
  have hmono := h.mono
  obtain ⟨h1, h2, h3, h4, h5, h6, h7, h8, h9, h10, h11, h12, h13, h14, h15⟩ := h
  unfold inM inR
  have hlen : e.waiting.length = r.sent.length - a := by rw [h9, List.length_drop]
  by_cases hc : validB p.seq p.ack p.b.length = false ∨ (r.sent.length : Int) < p.ack ∨ r.got + 16 < p.seq
  · rw [if_pos (by rcases hc with h | h | h; exact .inl h; exact .inr (.inl (by omega)); exact .inr (.inr (by omega))), if_pos hc]
    exact ⟨rfl, by simp, by simp, a, hmono⟩
  · rw [if_neg (by rintro (h | h | h); exact hc (.inl h); exact hc (.inr (.inl (by omega))); exact hc (.inr (.inr (by omega)))), if_neg hc]
    have hpb : p.b.length ≤ 65536 := by
      have : validB p.seq p.ack p.b.length = true := by
        cases hv : validB p.seq p.ack p.b.length
        · exact absurd (.inl hv) hc
        · rfl
      simp [validB] at this
      omega
    have hackle : p.ack ≤ r.sent.length := by
      rcases Int.lt_or_le (r.sent.length : Int) p.ack with h | h
      · exact absurd (.inr (.inl h)) hc
      · exact h
    obtain ⟨a', ha1, ha2, ha3, ha4⟩ : ∃ a' : Nat, (ackM e p.ack).acked = a' ∧ (ackR r p.ack).acked = a' ∧ a' ≤ r.sent.length ∧ (ackM e p.ack).waiting = r.sent.drop a' := by
      unfold ackM ackR
      by_cases hk : 0 < p.ack - e.acked
      · rw [if_pos hk]
        refine ⟨p.ack.toNat, by simp only; omega, by simp only; omega, by omega, ?_⟩
        simp only
        rw [h9, List.drop_drop]
        congr 1; omega
      · rw [if_neg hk]
        exact ⟨a, by omega, by simp only; omega, h8, h9⟩
    obtain ⟨f1, f2, f3, f4⟩ := ackM_fix e p.ack
    generalize ackM e p.ack = z at f1 f2 f3 f4 ha1 ha4
    by_cases h0 : p.seq = 0
    · rw [if_pos h0, if_pos h0]
      exact ⟨rfl, by simp, by simp, a', by rw [f3]; exact h1, h2, by rw [ha1, ha2], by rw [f1]; exact h4, by rw [f2]; exact h5, by rw [f4]; exact h6, ha2, ha3, ha4, h10, by simp only [ackR]; omega, h12, by simp only [ackR]; omega, h14, h15⟩
    · rw [if_neg h0, if_neg h0]
      by_cases hs : p.seq ≤ r.got ∨ mget r.held p.seq ≠ none
      · rw [if_pos hs]
        have hh : holdM z p = { z with owing := true } := by
          unfold holdM
          rw [if_neg]
          rintro ⟨k1, k2⟩
          rcases hs with hs | hs
          · omega
          · rw [f2, h5] at k2; exact hs k2
        have hd : deliver r.held.length r.got r.held = ([], r.got, r.held) := deliver_none h12 _
        rw [hh]
        dsimp only
        rw [f1, f2, h4, h5, hd]
        exact ⟨rfl, by simp, by simp, a', by simp only; rw [f3]; exact h1, h2, by simp only; rw [ha1, ← ha2], rfl, rfl, rfl, ha2, ha3, ha4, h10, by simp only [ackR]; omega, h12, by simp only [ackR]; omega, h14, h15⟩
      · rw [if_neg hs]
        have hn : mget r.held p.seq = none := by
          cases hm : mget r.held p.seq with
          | none => rfl
          | some v => exact absurd (.inr (by rw [hm]; simp)) hs
        have hh : holdM z p = { z with owing := true, held := r.held ++ [(p.seq, p.b)] } := by
          unfold holdM
          rw [if_pos ⟨by rw [f1, h4]; rcases Int.lt_or_le r.got p.seq with h | h; exact h; exact absurd (.inl h) hs, by rw [f2, h5]; exact hn⟩, f2, h5, mset_none hn]
        rw [hh]
        dsimp only
        rw [f1, h4]
        have e1 := deliver_end (r.held ++ [(p.seq, p.b)]).length r.got (r.held ++ [(p.seq, p.b)]) (Nat.le_refl _)
        have e2 := deliver_sum (r.held ++ [(p.seq, p.b)]).length r.got (r.held ++ [(p.seq, p.b)])
        have e3 := deliver_mem (r.held ++ [(p.seq, p.b)]).length r.got (r.held ++ [(p.seq, p.b)])
        have e4 := deliver_len (r.held ++ [(p.seq, p.b)]).length r.got (r.held ++ [(p.seq, p.b)])
        have e5 : ∀ q ∈ r.held ++ [(p.seq, p.b)], q.2.length ≤ 65536 := by
          intro q hq
          rcases List.mem_append.1 hq with hq | hq
          · exact h15 q hq
          · simp at hq; subst hq; exact hpb
        have e6 : (r.held ++ [(p.seq, p.b)]).length = r.held.length + 1 := by simp
        generalize deliver (r.held ++ [(p.seq, p.b)]).length r.got (r.held ++ [(p.seq, p.b)]) = D at e1 e2 e3 e4 ⊢
        generalize r.held ++ [(p.seq, p.b)] = H at e2 e3 e4 e5 e6
        exact ⟨rfl, by omega, fun b hb => by obtain ⟨q, hq, rfl⟩ := e3.1 b hb; exact e5 q hq, a', by simp only [ackR]; rw [f3]; exact h1, h2, by simp only; rw [ha1, ← ha2], rfl, rfl, rfl, ha2, ha3, ha4, by simp only; omega, by simp only; omega, e1, by simp only [ackR]; omega, h14, fun q hq => e5 q (e3.2 q hq)⟩

structure RO where
  e0 : EndM
  e1 : EndM
  r0 : RM
  r1 : RM
  L : List (Pkt × Nat)
  la : Option Addr
  ll : Nat
  lc : Nat
  lv : List Value
  ta : Option Addr
  tl : Nat
  tc : Nat
structure RI (i : Nat) (x : RO) : Prop where
  v0 : ∃ a, Rel i x.e0 x.r0 a
  v1 : ∃ a, Rel i x.e1 x.r1 a
  link : ∀ p ∈ x.L, (p.2 = 1 ∨ p.2 = 0) ∧ p.1.b.length ≤ 65536
  ll : x.L.length ≤ 16 * i
def roL (q0 q1 m0 m1 eb : Nat) (ma : Option Addr) (mc : Nat) (x : RO) : List HProp :=
  [endR q0 x.e0, endR q1 x.e1, refR m0 x.r0, refR m1 x.r1, sl true 33 1 (some ⟨eb, 0, none⟩) 2 2 [.pointer (some ⟨q0, 0, none⟩), .pointer (some ⟨q1, 0, none⟩)],
   sl true 26 1 ma 2 mc [.pointer (some ⟨m0, 0, none⟩), .pointer (some ⟨m1, 0, none⟩)],
   sl true 40 3 x.la x.ll x.lc (pktC (x.L.map (·.1)) x.lv), allR (byt 5 false) x.lv (x.L.map (·.1.b)), sl true 3 1 x.ta x.tl x.tc (x.L.map fun p => .int .i64 p.2)]
def mL (i m0 m1 : Nat) (ma : Option Addr) (mc : Nat) (w0 w1 : Int) : List HProp := match i with
  | 0 => [sl true 26 1 ma 0 mc []]
  | 1 => [sl true 26 1 ma 1 mc [.pointer (some ⟨m0, 0, none⟩)], refR m0 ⟨w0, [], 0, 0, [], false⟩]
  | _ => [sl true 26 1 ma 2 mc [.pointer (some ⟨m0, 0, none⟩), .pointer (some ⟨m1, 0, none⟩)], refR m0 ⟨w0, [], 0, 0, [], false⟩, refR m1 ⟨w1, [], 0, 0, [], false⟩]
theorem outR_len {r : RM} {a : Nat} (h : r.window ≤ 16) : (outR r a).1.length ≤ 16 := by
  unfold outR
  dsimp only
  split
  · simp
  · unfold outRL; rw [pkts_length, List.length_take]; omega
theorem Sat.refOpen {g w : World} {Ps : List HProp} {q : Nat} {r : RM} (s : Sat g w (refR q r :: Ps)) : ∃ x : RX, True ∧ Sat g w (refL q r x ++ Ps) := by
  unfold refR at s
  exact s.exOpen
theorem elem25 : ElemT Try.prog 25 26 1 8 := ⟨Try.underlying25, ⟨Try.t26, _, by kernel_rfl, rfl, rfl, rfl, rfl⟩⟩
set_option maxRecDepth 20000 in
set_option maxHeartbeats 4000000 in
theorem runs_spec (window : Int) (hw : -9223372036854775808 ≤ window ∧ window ≤ 9223372036854775807) (a1 : Option Addr) (len1 cap1 : Nat) (zs : List Int) (hz : zs.length = len1) (hwf : ∀ z ∈ zs, -9223372036854775808 ≤ z ∧ z ≤ 9223372036854775807) :
    Triple Try.prog 3 #[.int .i64 window, .slice a1 len1 cap1] [slr 1 a1 len1 (zs.map (Value.int .i64))] (Unit) (fun _ => True) (fun _ => .bool true) (fun _ => []) := by
  refine Triple.of_body (args := [.int .i64 window, .slice a1 len1 cap1]) Try.func3 rfl Try.ntmps3 (by simp) (fun g F => ?_)
  dsimp only [numb, List.cons_append, List.nil_append]
  have hW0 := aroundM_range window 16 (by omega)
  have hW1 := aroundM_range (window.tdiv 16) 16 (by omega)
  refine WK.seq ?_
  refine WK.region ?_
  refine WL.yld (wanted_plain (by rfl)) (yld_assign (by rfl)) (by rfl) (by decide) ?_
  refine WL.done ?_
  refine WK.seq ?_
  refine WK.region ?_
  refine WL.yld (wanted_plain (by rfl)) (yld_move (by rfl)) (by rfl) (by decide) ?_
  refine WL.eff (wanted_plain (by rfl)) (eff_call (by exact Try.call10) (by repeat (first | exact Evs.nil | apply Evs.cons | rfl)) (by repeat (first | exact SelL.nil | exact SelL.self | apply SelL.cons | exact Sel.here | apply Sel.there | apply SelL.skip)) (ends_spec window hw)) (by rfl) (by decide) ?_
  rintro ⟨eb, q0, q1⟩ -
  try dsimp only
  refine WL.yld (wanted_plain (by rfl)) (yld_assign (by rfl)) (by rfl) (by decide) ?_
  refine WL.done ?_
  refine WK.seq ?_
  refine WK.seq ?_
  refine WK.region ?_
  refine WL.yld (wanted_plain (by rfl)) (yld_move (by rfl)) (by rfl) (by decide) ?_
  refine WL.yld (wanted_plain (by rfl)) (yld_eqlNilS (by rfl) (by rfl) (by exact Try.runUnderlying23)) (by rfl) (by decide) ?_
  refine WL.done ?_
  refine WK.cond (by rfl) (fun hc25 => ?_) (fun hc25 => ?_)
  · skip
    first | omega | exact absurd rfl hc25 | (simp at hc25; done) | (exact absurd hc25 (by decide))
  · skip
    refine WK.skip ?_
    refine WK.seq ?_
    refine WK.region ?_
    refine WL.yld (wanted_plain (by rfl)) (yld_assign (by rfl)) (by rfl) (by decide) ?_
    refine WL.done ?_
    refine WK.seq ?_
    refine WK.seq ?_
    refine WK.region ?_
    refine WL.yld (wanted_plain (by rfl)) (yld_assign (by rfl)) (by rfl) (by decide) ?_
    refine WL.done ?_
    refine WK.block ?_
    refine WK.sat (fun w s => s.nilSl true 26 1) ?_
    refine WK.loop (ι := Nat × (Option Addr × Nat) × Nat × Nat) (fun p => p.1 ≤ 2) (fun p => [(0, .int .i64 window), (1, .slice a1 len1 cap1), (5, .slice (some ⟨eb, 0, none⟩) 2 2), (6, .slice p.2.1.1 p.1 p.2.1.2), (7, .int .i64 (p.1 : Int))]) (fun p => mL p.1 p.2.2.1 p.2.2.2 p.2.1.1 p.2.1.2 (1 + aroundM window 16) (1 + aroundM (window.tdiv 16) 16) ++ (endR q0 (newE (1 + aroundM window 16)) :: endR q1 (newE (1 + aroundM (window.tdiv 16) 16)) :: sl true 33 1 (some ⟨eb, 0, none⟩) 2 2 [.pointer (some ⟨q0, 0, none⟩), .pointer (some ⟨q1, 0, none⟩)] :: slr 1 a1 len1 (zs.map (Value.int .i64)) :: F)) (fun p => 2 - p.1) ((0, (none, 0), 0, 0)) (Nat.zero_le _) (by repeat (first | exact KK.nil | refine KK.cons (by first | rfl | (simp; done)) ?_)) (by (try dsimp only [roL, mL, refL, List.cons_append, List.nil_append]); exact (by repeat (first | exact SelL.nil | exact SelL.self | apply SelL.cons | exact Sel.here | apply Sel.there | apply SelL.skip))) ?_
    rintro ⟨i, ⟨ma, mc⟩, m0, m1⟩ hi N hN
    dsimp only at hi ⊢
    refine WK.seq ?_
    refine WK.seq ?_
    refine WK.region ?_
    refine WL.yld (wanted_plain (by rfl)) (yld_move (by rfl)) (by rfl) (by decide) ?_
    refine WL.yld (wanted_plain (by rfl)) (yld_lss (by rfl) (by rfl)) (by rfl) (by decide) ?_
    refine WL.done ?_
    refine WK.cond (by rfl) (fun hc27 => ?_) (fun hc27 => ?_)
    · skip
      have hc27 := of_decide_eq_true hc27
      obtain rfl | rfl : i = 0 ∨ i = 1 := by omega
      · skip
        dsimp only [mL, List.cons_append, List.nil_append]
        refine WK.skip ?_
        refine WK.seq ?_
        refine WK.block ?_
        refine WK.seq ?_
        refine WK.region ?_
        refine WL.yld (wanted_plain (by rfl)) (yld_move (by rfl)) (by rfl) (by decide) ?_
        refine WL.yld (wanted_plain (by rfl)) (yld_move (by rfl)) (by rfl) (by decide) ?_
        refine WL.yld (wanted_plain (by rfl)) (yld_quo (by rfl) (by rfl) (by omega) (by exact IntWalk.i64_quo' window 16 ⟨hw.1, hw.2, by omega⟩)) (by rfl) (by decide) ?_
        refine WL.eff (wanted_plain (by rfl)) (eff_mkSliceN (by exact Try.runUnderlying22) (by exact Try.sizeOf3) (by exact Try.zeroValue3) (by repeat (first | exact PrtsN.nil | apply PrtsN.cons | rfl)) (by decide) (by rfl) (by rfl) (by rfl) (by rfl)) (by rfl) (by decide) ?_
        rintro b34 -
        try dsimp only [List.cons_append, List.nil_append]
        try dsimp only
        refine WL.yld (wanted_plain (by rfl)) (yld_move (by rfl)) (by rfl) (by decide) ?_
        refine WL.yld (wanted_plain (by rfl)) (yld_indexAddrS (by rfl) (by rfl) (by exact Try.runUnderlying22) (by exact Try.sizeOf3) (by repeat (first | exact .here | apply Sel.there)) (0) (by first | rfl | omega) (by omega) (by omega) (by exact Nat.mul_one _)) (by rfl) (by decide) ?_
        refine WL.yld (wanted_plain (by rfl)) (yld_loadS (by rfl) (by exact Try.isAgg3) (by repeat (first | exact .here | apply Sel.there)) (by first | rfl | assumption | (simp; done) | (simp [*]; done))) (by rfl) (by decide) ?_
        refine WL.eff (wanted_plain (by rfl)) (eff_call (by exact Try.call12) (by repeat (first | exact Evs.nil | apply Evs.cons | rfl)) (by repeat (first | exact SelL.nil | exact SelL.self | apply SelL.cons | exact Sel.here | apply Sel.there | apply SelL.skip)) (around_spec window 16 hw (by omega))) (by rfl) (by decide) ?_
        rintro _ -
        try dsimp only
        refine WL.yld (wanted_plain (by rfl)) (yld_add (by rfl) (by rfl) (by first | exact w64 (by omega) (by omega) | rfl)) (by rfl) (by decide) ?_
        refine WL.eff (wanted_plain (by rfl)) (eff_call (by exact Try.call11) (by repeat (first | exact Evs.nil | apply Evs.cons | rfl)) (by repeat (first | exact SelL.nil | exact SelL.self | apply SelL.cons | exact Sel.here | apply Sel.there | apply SelL.skip)) (refNew_spec (1 + aroundM window 16) (by omega))) (by rfl) (by decide) ?_
        rintro m40 -
        try dsimp only
        refine WL.yld (wanted_plain (by rfl)) (yld_move (by rfl)) (by rfl) (by decide) ?_
        refine WL.yld (wanted_plain (by rfl)) (yld_extract (by rfl) (by rfl)) (by rfl) (by decide) ?_
        refine WL.yld (wanted_plain (by rfl)) (yld_extract (by rfl) (by rfl)) (by rfl) (by decide) ?_
        refine WL.yld (wanted_plain (by rfl)) (yld_assign (by rfl)) (by rfl) (by decide) ?_
        refine WL.yld (wanted_plain (by rfl)) (yld_assign (by rfl)) (by rfl) (by decide) ?_
        refine WL.done ?_
        refine WK.seq ?_
        refine WK.seq ?_
        refine WK.region ?_
        refine WL.yld (wanted_plain (by rfl)) (yld_move (by rfl)) (by rfl) (by decide) ?_
        refine WL.yld (wanted_plain (by rfl)) (yld_not (by rfl)) (by rfl) (by decide) ?_
        refine WL.done ?_
        refine WK.cond (by rfl) (fun h => by cases h) (fun _ => ?_)
        refine WK.skip ?_
        refine WK.region ?_
        refine WL.yld (wanted_plain (by rfl)) (yld_move (by rfl)) (by rfl) (by decide) ?_
        refine WL.yld (wanted_plain (by rfl)) (yld_move (by rfl)) (by rfl) (by decide) ?_
        refine WL.eff (wanted_plain (by rfl)) (eff_mkSlice1 (by rfl) (by rfl) (by exact Try.runUnderlying25) (by exact Try.sizeOf26) (by exact Try.zeroValue26) (by rfl) (by rfl) (by decide) (by rfl)) (by rfl) (by decide) ?_
        rintro b47 -
        try dsimp only
        refine WL.eff (wanted_plain (by rfl)) (eff_append (by rfl) (by rfl) (by exact elem25) (by exact Try.underlying25) (by repeat (first | exact SelL.nil | exact SelL.self | apply SelL.cons | exact Sel.here | apply Sel.there | apply SelL.skip)) (by omega) (by omega)) (by rfl) (by decide) ?_
        rintro ⟨ad48, cap48⟩ -
        try dsimp only
        refine WL.yld (wanted_plain (by rfl)) (yld_assign (by rfl)) (by rfl) (by decide) ?_
        refine WL.done ?_
        refine WK.endBlock ?_
        refine WK.region ?_
        refine WL.yld (wanted_plain (by rfl)) (yld_move (by rfl)) (by rfl) (by decide) ?_
        refine WL.yld (wanted_plain (by rfl)) (yld_add (by rfl) (by rfl) (by first | exact w64 (by omega) (by omega) | rfl)) (by rfl) (by decide) ?_
        refine WL.yld (wanted_plain (by rfl)) (yld_assign (by rfl)) (by rfl) (by decide) ?_
        refine WL.done ?_
        exact WK.next hN (1, (ad48, cap48), m40, 0) (by dsimp only; omega) (by dsimp only; omega) (by repeat (first | exact KK.nil | refine KK.cons (by first | rfl | (simp; done)) ?_)) (by (try dsimp only [roL, mL, refL, List.cons_append, List.nil_append]); exact (by repeat (first | exact SelL.nil | exact SelL.self | apply SelL.cons | exact Sel.here | apply Sel.there | apply SelL.skip)))
      · skip
        dsimp only [mL, List.cons_append, List.nil_append]
        refine WK.skip ?_
        refine WK.seq ?_
        refine WK.block ?_
        refine WK.seq ?_
        refine WK.region ?_
        refine WL.yld (wanted_plain (by rfl)) (yld_move (by rfl)) (by rfl) (by decide) ?_
        refine WL.yld (wanted_plain (by rfl)) (yld_move (by rfl)) (by rfl) (by decide) ?_
        refine WL.yld (wanted_plain (by rfl)) (yld_quo (by rfl) (by rfl) (by omega) (by exact IntWalk.i64_quo' window 16 ⟨hw.1, hw.2, by omega⟩)) (by rfl) (by decide) ?_
        refine WL.eff (wanted_plain (by rfl)) (eff_mkSliceN (by exact Try.runUnderlying22) (by exact Try.sizeOf3) (by exact Try.zeroValue3) (by repeat (first | exact PrtsN.nil | apply PrtsN.cons | rfl)) (by decide) (by rfl) (by rfl) (by rfl) (by rfl)) (by rfl) (by decide) ?_
        rintro b34 -
        try dsimp only [List.cons_append, List.nil_append]
        try dsimp only
        refine WL.yld (wanted_plain (by rfl)) (yld_move (by rfl)) (by rfl) (by decide) ?_
        refine WL.yld (wanted_plain (by rfl)) (yld_indexAddrS (by rfl) (by rfl) (by exact Try.runUnderlying22) (by exact Try.sizeOf3) (by repeat (first | exact .here | apply Sel.there)) (1) (by first | rfl | omega) (by omega) (by omega) (by exact Nat.mul_one _)) (by rfl) (by decide) ?_
        refine WL.yld (wanted_plain (by rfl)) (yld_loadS (by rfl) (by exact Try.isAgg3) (by repeat (first | exact .here | apply Sel.there)) (by first | rfl | assumption | (simp; done) | (simp [*]; done))) (by rfl) (by decide) ?_
        refine WL.eff (wanted_plain (by rfl)) (eff_call (by exact Try.call12) (by repeat (first | exact Evs.nil | apply Evs.cons | rfl)) (by repeat (first | exact SelL.nil | exact SelL.self | apply SelL.cons | exact Sel.here | apply Sel.there | apply SelL.skip)) (around_spec (window.tdiv 16) 16 (tdiv16 window hw) (by omega))) (by rfl) (by decide) ?_
        rintro _ -
        try dsimp only
        refine WL.yld (wanted_plain (by rfl)) (yld_add (by rfl) (by rfl) (by first | exact w64 (by omega) (by omega) | rfl)) (by rfl) (by decide) ?_
        refine WL.eff (wanted_plain (by rfl)) (eff_call (by exact Try.call11) (by repeat (first | exact Evs.nil | apply Evs.cons | rfl)) (by repeat (first | exact SelL.nil | exact SelL.self | apply SelL.cons | exact Sel.here | apply Sel.there | apply SelL.skip)) (refNew_spec (1 + aroundM (window.tdiv 16) 16) (by omega))) (by rfl) (by decide) ?_
        rintro m40 -
        try dsimp only
        refine WL.yld (wanted_plain (by rfl)) (yld_move (by rfl)) (by rfl) (by decide) ?_
        refine WL.yld (wanted_plain (by rfl)) (yld_extract (by rfl) (by rfl)) (by rfl) (by decide) ?_
        refine WL.yld (wanted_plain (by rfl)) (yld_extract (by rfl) (by rfl)) (by rfl) (by decide) ?_
        refine WL.yld (wanted_plain (by rfl)) (yld_assign (by rfl)) (by rfl) (by decide) ?_
        refine WL.yld (wanted_plain (by rfl)) (yld_assign (by rfl)) (by rfl) (by decide) ?_
        refine WL.done ?_
        refine WK.seq ?_
        refine WK.seq ?_
        refine WK.region ?_
        refine WL.yld (wanted_plain (by rfl)) (yld_move (by rfl)) (by rfl) (by decide) ?_
        refine WL.yld (wanted_plain (by rfl)) (yld_not (by rfl)) (by rfl) (by decide) ?_
        refine WL.done ?_
        refine WK.cond (by rfl) (fun h => by cases h) (fun _ => ?_)
        refine WK.skip ?_
        refine WK.region ?_
        refine WL.yld (wanted_plain (by rfl)) (yld_move (by rfl)) (by rfl) (by decide) ?_
        refine WL.yld (wanted_plain (by rfl)) (yld_move (by rfl)) (by rfl) (by decide) ?_
        refine WL.eff (wanted_plain (by rfl)) (eff_mkSlice1 (by rfl) (by rfl) (by exact Try.runUnderlying25) (by exact Try.sizeOf26) (by exact Try.zeroValue26) (by rfl) (by rfl) (by decide) (by rfl)) (by rfl) (by decide) ?_
        rintro b47 -
        try dsimp only
        refine WL.eff (wanted_plain (by rfl)) (eff_append (by rfl) (by rfl) (by exact elem25) (by exact Try.underlying25) (by repeat (first | exact SelL.nil | exact SelL.self | apply SelL.cons | exact Sel.here | apply Sel.there | apply SelL.skip)) (by omega) (by omega)) (by rfl) (by decide) ?_
        rintro ⟨ad48, cap48⟩ -
        try dsimp only
        refine WL.yld (wanted_plain (by rfl)) (yld_assign (by rfl)) (by rfl) (by decide) ?_
        refine WL.done ?_
        refine WK.endBlock ?_
        refine WK.region ?_
        refine WL.yld (wanted_plain (by rfl)) (yld_move (by rfl)) (by rfl) (by decide) ?_
        refine WL.yld (wanted_plain (by rfl)) (yld_add (by rfl) (by rfl) (by first | exact w64 (by omega) (by omega) | rfl)) (by rfl) (by decide) ?_
        refine WL.yld (wanted_plain (by rfl)) (yld_assign (by rfl)) (by rfl) (by decide) ?_
        refine WL.done ?_
        exact WK.next hN (2, (ad48, cap48), m0, m40) (by dsimp only; omega) (by dsimp only; omega) (by repeat (first | exact KK.nil | refine KK.cons (by first | rfl | (simp; done)) ?_)) (by (try dsimp only [roL, mL, refL, List.cons_append, List.nil_append]); exact (by repeat (first | exact SelL.nil | exact SelL.self | apply SelL.cons | exact Sel.here | apply Sel.there | apply SelL.skip)))
    · skip
      have hc27 := of_decide_eq_false hc27
      obtain rfl : i = 2 := by omega
      dsimp only [mL, List.cons_append, List.nil_append]
      refine WK.exit ?_
      repeat (first | refine XQ.then_ ?_ | refine XQ.block (by rfl) ?_)
      refine XQ.here ?_
      refine WK.seq ?_
      refine WK.region ?_
      refine WL.yld (wanted_plain (by rfl)) (yld_assign (by rfl)) (by rfl) (by decide) ?_
      refine WL.done ?_
      refine WK.seq ?_
      refine WK.region ?_
      refine WL.yld (wanted_plain (by rfl)) (yld_assign (by rfl)) (by rfl) (by decide) ?_
      refine WL.done ?_
      refine WK.seq ?_
      refine WK.seq ?_
      refine WK.region ?_
      refine WL.yld (wanted_plain (by rfl)) (yld_assign (by rfl)) (by rfl) (by decide) ?_
      refine WL.done ?_
      refine WK.block ?_
      refine WK.sat (fun w s => ((s.nilSl true 40 3).allNil (Rl := byt 5 false)).nilSl true 3 1) ?_
      refine WK.loop (ι := Nat × RO) (fun p => p.1 ≤ 60 ∧ RI p.1 p.2) (fun p => [(1, .slice a1 len1 cap1), (5, .slice (some ⟨eb, 0, none⟩) 2 2), (6, .slice ma 2 mc), (10, .slice p.2.la p.2.ll p.2.lc), (11, .slice p.2.ta p.2.tl p.2.tc), (12, .int .i64 (p.1 : Int))]) (fun p => roL q0 q1 m0 m1 eb ma mc p.2 ++ (slr 1 a1 len1 (zs.map (Value.int .i64)) :: F)) (fun p => 60 - p.1) ((0, ⟨newE (1 + aroundM window 16), newE (1 + aroundM (window.tdiv 16) 16), ⟨(1 + aroundM window 16), [], 0, 0, [], false⟩, ⟨(1 + aroundM (window.tdiv 16) 16), [], 0, 0, [], false⟩, [], none, 0, 0, [], none, 0, 0⟩)) (⟨Nat.zero_le _, ⟨⟨0, Rel.start (by omega)⟩, ⟨0, Rel.start (by omega)⟩, by simp, by simp⟩⟩) (by repeat (first | exact KK.nil | refine KK.cons (by first | rfl | (simp; done)) ?_)) (by (try dsimp only [roL, mL, refL, List.cons_append, List.nil_append]); exact (by repeat (first | exact SelL.nil | exact SelL.self | apply SelL.cons | exact Sel.here | apply Sel.there | apply SelL.skip))) ?_
      rintro ⟨i, ⟨e0, e1, r0, r1, L, la, ll, lc, lv, ta, tl, tc⟩⟩ ⟨hi, hI⟩ N hN
      dsimp only at hi hI ⊢
      dsimp only [roL, List.cons_append, List.nil_append]
      obtain ⟨⟨x0, v0⟩, ⟨x1, v1⟩, hlink, hll⟩ := (id hI)
      dsimp only at v0 v1 hlink hll
      have w01 := v0.a1
      have w02 := v0.a2
      have w03 := v0.sent
      have w04 := v0.g0
      have w05 := v0.g1
      have w06 := v0.win2
      have w11 := v1.a1
      have w12 := v1.a2
      have w13 := v1.sent
      have w14 := v1.g0
      have w15 := v1.g1
      have w16 := v1.win2
      refine WK.know (fun w s => And.intro (Sat.slLen (s.sel1 (A := sl true 40 3 la ll lc (pktC (L.map (·.1)) lv)) (by repeat (first | exact .here | apply Sel.there)))) (And.intro (Sat.allLen (s.sel1 (A := allR (byt 5 false) lv (L.map (·.1.b))) (by repeat (first | exact .here | apply Sel.there)))) (Sat.slLen (s.sel1 (A := sl true 3 1 ta tl tc (L.map fun p => .int .i64 p.2)) (by repeat (first | exact .here | apply Sel.there)))))) (fun hkn => ?_)
      obtain ⟨⟨n5, -⟩, n6, ⟨n7, -⟩⟩ := hkn
      have n8 : lv.length = L.length := by simpa using n6
      rw [pktC_len (by simp [n8])] at n5
      simp only [Nat.mul_one, List.length_map] at n5 n7
      have n9 : L.length = ll := by omega
      refine WK.seq ?_
      refine WK.seq ?_
      refine WK.region ?_
      refine WL.yld (wanted_plain (by rfl)) (yld_move (by rfl)) (by rfl) (by decide) ?_
      refine WL.yld (wanted_plain (by rfl)) (yld_move (by rfl)) (by rfl) (by decide) ?_
      refine WL.yld (wanted_plain (by rfl)) (yld_len (by rfl) (by exact Try.runUnderlying22)) (by rfl) (by decide) ?_
      refine WL.yld (wanted_plain (by rfl)) (yld_lss (by rfl) (by rfl)) (by rfl) (by decide) ?_
      refine WL.yld (wanted_plain (by rfl)) (yld_move (by rfl)) (by rfl) (by decide) ?_
      refine WL.split (d := 53) (by rfl) (fun hc53 => ?_) (fun hc53 => ?_)
      · skip
        have hc53 := of_decide_eq_true hc53
        refine WL.yld (wanted_some (by rfl) (by rfl) (by rfl)) (yld_move (by rfl)) (by rfl) (by decide) ?_
        refine WL.yld (wanted_some (by rfl) (by rfl) (by rfl)) (yld_lss (by rfl) (by rfl)) (by rfl) (by decide) ?_
        refine WL.yld (wanted_plain (by rfl)) (yld_pick_true (by rfl) (by rfl)) (by rfl) (by decide) ?_
        refine WL.done ?_
        refine WK.cond (by rfl) (fun hc56 => ?_) (fun hc56 => ?_)
        · skip
          have hc56 := of_decide_eq_true hc56
          refine WK.skip ?_
          refine WK.seq ?_
          refine WK.block ?_
          refine WK.seq ?_
          obtain ⟨z, hzi⟩ : ∃ z, zs[i]? = some z := ⟨_, List.getElem?_eq_getElem (by omega)⟩
          refine WK.region ?_
          refine WL.yld (wanted_plain (by rfl)) (yld_move (by rfl)) (by rfl) (by decide) ?_
          refine WL.yld (wanted_plain (by rfl)) (yld_move (by rfl)) (by rfl) (by decide) ?_
          refine WL.yld (wanted_plain (by rfl)) (yld_indexAddrR (by rfl) (by rfl) (by exact Try.runUnderlying22) (by exact Try.sizeOf3) (by repeat (first | exact .here | apply Sel.there)) (by rfl) (i) (by first | rfl | omega) (by omega) (by omega) (by exact Nat.mul_one _)) (by rfl) (by decide) ?_
          refine WL.yld (wanted_plain (by rfl)) (yld_loadR (by rfl) (by exact Try.isAgg3) (by repeat (first | exact .here | apply Sel.there)) (by rw [List.getElem?_map, hzi]; rfl)) (by rfl) (by decide) ?_
          refine WL.yld (wanted_plain (by rfl)) (yld_quo (by rfl) (by rfl) (by omega) (by exact IntWalk.i64_quo' z 8 ⟨(hwf z (List.mem_of_getElem? hzi)).1, (hwf z (List.mem_of_getElem? hzi)).2, by omega⟩)) (by rfl) (by decide) ?_
          refine WL.eff (wanted_plain (by rfl)) (eff_call (by exact Try.call12) (by repeat (first | exact Evs.nil | apply Evs.cons | rfl)) (by repeat (first | exact SelL.nil | exact SelL.self | apply SelL.cons | exact Sel.here | apply Sel.there | apply SelL.skip)) (around_spec (z.tdiv 8) 1073741824 (tdiv8 z (hwf z (List.mem_of_getElem? hzi))) (by omega))) (by rfl) (by decide) ?_
          rintro _ -
          have h42 := aroundM_range (z.tdiv 8) 1073741824 (by omega)
          obtain ⟨nn, hnn⟩ : ∃ N : Nat, aroundM (z.tdiv 8) 1073741824 = (N : Int) := ⟨(aroundM (z.tdiv 8) 1073741824).toNat, by omega⟩
          rw [hnn] at h42 ⊢
          try dsimp only
          refine WL.yld (wanted_plain (by rfl)) (yld_assign (by rfl)) (by rfl) (by decide) ?_
          refine WL.done ?_
          refine WK.seq ?_
          refine WK.region ?_
          refine WL.yld (wanted_plain (by rfl)) (yld_move (by rfl)) (by rfl) (by decide) ?_
          refine WL.yld (wanted_plain (by rfl)) (yld_rem (by rfl) (by rfl) (by omega) (by exact tmodNat nn 2)) (by rfl) (by decide) ?_
          refine WL.yld (wanted_plain (by rfl)) (yld_assign (by rfl)) (by rfl) (by decide) ?_
          refine WL.done ?_
          refine WK.seq ?_
          refine WK.seq ?_
          refine WK.region ?_
          refine WL.yld (wanted_plain (by rfl)) (yld_move (by rfl)) (by rfl) (by decide) ?_
          refine WL.yld (wanted_plain (by rfl)) (yld_move (by rfl)) (by rfl) (by decide) ?_
          refine WL.yld (wanted_plain (by rfl)) (yld_indexAddrR (by rfl) (by rfl) (by exact Try.runUnderlying22) (by exact Try.sizeOf3) (by repeat (first | exact .here | apply Sel.there)) (by rfl) (i) (by first | rfl | omega) (by omega) (by omega) (by exact Nat.mul_one _)) (by rfl) (by decide) ?_
          refine WL.yld (wanted_plain (by rfl)) (yld_loadR (by rfl) (by exact Try.isAgg3) (by repeat (first | exact .here | apply Sel.there)) (by rw [List.getElem?_map, hzi]; rfl)) (by rfl) (by decide) ?_
          refine WL.eff (wanted_plain (by rfl)) (eff_call (by exact Try.call12) (by repeat (first | exact Evs.nil | apply Evs.cons | rfl)) (by repeat (first | exact SelL.nil | exact SelL.self | apply SelL.cons | exact Sel.here | apply Sel.there | apply SelL.skip)) (around_spec z 8 (hwf z (List.mem_of_getElem? hzi)) (by omega))) (by rfl) (by decide) ?_
          rintro _ -
          generalize aroundM z 8 = c
          try dsimp only
          refine WL.done ?_
          refine WK.cut (ι := RO) (fun x => RI (i + 1) x) (fun x => [(1, .slice a1 len1 cap1), (5, .slice (some ⟨eb, 0, none⟩) 2 2), (6, .slice ma 2 mc), (10, .slice x.la x.ll x.lc), (11, .slice x.ta x.tl x.tc), (12, .int .i64 (i : Int))]) (fun x => roL q0 q1 m0 m1 eb ma mc x ++ (slr 1 a1 len1 (zs.map (Value.int .i64)) :: F)) ?_ ?_
          · skip
            rintro ⟨e0, e1, r0, r1, L, la, ll, lc, lv, ta, tl, tc⟩ hJ
            dsimp only [roL, List.cons_append, List.nil_append]
            obtain ⟨⟨x0, v0⟩, ⟨x1, v1⟩, hlink, hll⟩ := (id hJ)
            dsimp only at v0 v1 hlink hll
            have w01 := v0.a1
            have w02 := v0.a2
            have w03 := v0.sent
            have w04 := v0.g0
            have w05 := v0.g1
            have w06 := v0.win2
            have w11 := v1.a1
            have w12 := v1.a2
            have w13 := v1.sent
            have w14 := v1.g0
            have w15 := v1.g1
            have w16 := v1.win2
            refine WK.know (fun w s => And.intro (Sat.slLen (s.sel1 (A := sl true 40 3 la ll lc (pktC (L.map (·.1)) lv)) (by repeat (first | exact .here | apply Sel.there)))) (And.intro (Sat.allLen (s.sel1 (A := allR (byt 5 false) lv (L.map (·.1.b))) (by repeat (first | exact .here | apply Sel.there)))) (Sat.slLen (s.sel1 (A := sl true 3 1 ta tl tc (L.map fun p => .int .i64 p.2)) (by repeat (first | exact .here | apply Sel.there)))))) (fun hkn => ?_)
            obtain ⟨⟨n5, -⟩, n6, ⟨n7, -⟩⟩ := hkn
            have n8 : lv.length = L.length := by simpa using n6
            rw [pktC_len (by simp [n8])] at n5
            simp only [Nat.mul_one, List.length_map] at n5 n7
            have n9 : L.length = ll := by omega
            refine WK.seq ?_
            refine WK.region ?_
            refine WL.yld (wanted_plain (by rfl)) (yld_assign (by rfl)) (by rfl) (by decide) ?_
            refine WL.done ?_
            refine WK.block ?_
            refine WK.loop (ι := Nat) (fun j => j ≤ 2) (fun j => [(1, .slice a1 len1 cap1), (5, .slice (some ⟨eb, 0, none⟩) 2 2), (6, .slice ma 2 mc), (10, .slice la ll lc), (11, .slice ta tl tc), (12, .int .i64 (i : Int)), (21, .int .i64 (j : Int))]) (fun j => endR q0 e0 :: endR q1 e1 :: refR m0 r0 :: refR m1 r1 :: sl true 33 1 (some ⟨eb, 0, none⟩) 2 2 [.pointer (some ⟨q0, 0, none⟩), .pointer (some ⟨q1, 0, none⟩)] :: sl true 26 1 ma 2 mc [.pointer (some ⟨m0, 0, none⟩), .pointer (some ⟨m1, 0, none⟩)] :: sl true 40 3 la ll lc (pktC (L.map (·.1)) lv) :: allR (byt 5 false) lv (L.map (·.1.b)) :: sl true 3 1 ta tl tc (L.map fun p => .int .i64 p.2) :: slr 1 a1 len1 (zs.map (Value.int .i64)) :: F) (fun j => 2 - j) (0) (Nat.zero_le _) (by repeat (first | exact KK.nil | refine KK.cons (by first | rfl | (simp; done)) ?_)) (by repeat (first | exact SelL.nil | exact SelL.self | apply SelL.cons | exact Sel.here | apply Sel.there | apply SelL.skip)) ?_
            rintro j hj N4 hN4
            refine WK.seq ?_
            refine WK.seq ?_
            refine WK.region ?_
            refine WL.yld (wanted_plain (by rfl)) (yld_move (by rfl)) (by rfl) (by decide) ?_
            refine WL.yld (wanted_plain (by rfl)) (yld_lss (by rfl) (by rfl)) (by rfl) (by decide) ?_
            refine WL.done ?_
            refine WK.cond (by rfl) (fun hc189 => ?_) (fun hc189 => ?_)
            · skip
              have hc189 := of_decide_eq_true hc189
              obtain rfl | rfl : j = 0 ∨ j = 1 := by omega
              · skip
                refine WK.skip ?_
                refine WK.seq ?_
                refine WK.block ?_
                refine WK.seq ?_
                refine WK.openS (fun w s => Sat.refOpen (s.sel1 (A := refR m0 r0) (by repeat (first | exact .here | apply Sel.there)))) ?_
                rintro ⟨sad, slen, scap, svs, had, hlen, hcap, hvs⟩ -
                dsimp only [refL, List.cons_append, List.nil_append]
                refine WK.know (fun w s => And.intro (Sat.slLen (s.sel1 (A := sl true 31 1 sad slen scap svs) (by repeat (first | exact .here | apply Sel.there)))) (Sat.allLen (s.sel1 (A := allR (byt 5 false) svs r0.sent) (by repeat (first | exact .here | apply Sel.there))))) (fun hkn => ?_)
                obtain ⟨⟨g1, -⟩, g2⟩ := hkn
                have g3 : r0.sent.length = slen := by omega
                have hw9 : e0.waiting.length = r0.sent.length - x0 := by rw [v0.wait, List.length_drop]
                refine WK.drawn (by kernel_rfl) [(0, 0), (1, 0), (2, 0), (3, 0), (5, 0), (6, 0), (7, 0), (8, 0), (9, 0), (10, 0), (11, 0), (12, 0), (13, 0), (14, 0), (15, 0), (16, 0), (17, 0), (18, 0), (19, 0), (20, 0), (4, 1), (21, 0)] [sl true 33 1 (some ⟨eb, 0, none⟩) 2 2 [.pointer (some ⟨q0, 0, none⟩), .pointer (some ⟨q1, 0, none⟩)], sl true 26 1 ma 2 mc [.pointer (some ⟨m0, 0, none⟩), .pointer (some ⟨m1, 0, none⟩)], row true m0 50 [.int .i64 r0.window, .slice sad slen scap, .int .i64 r0.acked, .int .i64 r0.got, .slice had hlen hcap, .bool r0.owing]] (by kernel_rfl) (by kernel_rfl) (by kernel_rfl) ?_
                refine WO.yld (by rfl) (wanted_plain (by rfl)) (yld_move (by rfl)) (by rfl) (by decide) (by repeat (first | exact SelL.nil | exact SelL.self | apply SelL.cons | exact Sel.here | apply Sel.there | apply SelL.skip)) ?_
                refine WO.yld (by rfl) (wanted_plain (by rfl)) (yld_move (by rfl)) (by rfl) (by decide) (by repeat (first | exact SelL.nil | exact SelL.self | apply SelL.cons | exact Sel.here | apply Sel.there | apply SelL.skip)) ?_
                refine WO.yld (by rfl) (wanted_plain (by rfl)) (yld_indexAddrS (by rfl) (by rfl) (by exact Try.runUnderlying23) (by exact Try.sizeOf33) (by repeat (first | exact .here | apply Sel.there)) (0) (by first | rfl | omega) (by omega) (by omega) (by exact Nat.mul_one _)) (by rfl) (by decide) (by repeat (first | exact SelL.nil | exact SelL.self | apply SelL.cons | exact Sel.here | apply Sel.there | apply SelL.skip)) ?_
                refine WO.yld (by rfl) (wanted_plain (by rfl)) (yld_loadS (by rfl) (by exact Try.isAgg33) (by repeat (first | exact .here | apply Sel.there)) (by first | rfl | assumption | (simp; done) | (simp [*]; done))) (by rfl) (by decide) (by repeat (first | exact SelL.nil | exact SelL.self | apply SelL.cons | exact Sel.here | apply Sel.there | apply SelL.skip)) ?_
                refine WO.yld (by rfl) (wanted_plain (by rfl)) (yld_move (by rfl)) (by rfl) (by decide) (by repeat (first | exact SelL.nil | exact SelL.self | apply SelL.cons | exact Sel.here | apply Sel.there | apply SelL.skip)) ?_
                refine WO.yld (by rfl) (wanted_plain (by rfl)) (yld_move (by rfl)) (by rfl) (by decide) (by repeat (first | exact SelL.nil | exact SelL.self | apply SelL.cons | exact Sel.here | apply Sel.there | apply SelL.skip)) ?_
                refine WO.yld (by rfl) (wanted_plain (by rfl)) (yld_indexAddrS (by rfl) (by rfl) (by exact Try.runUnderlying25) (by exact Try.sizeOf26) (by repeat (first | exact .here | apply Sel.there)) (0) (by first | rfl | omega) (by omega) (by omega) (by exact Nat.mul_one _)) (by rfl) (by decide) (by repeat (first | exact SelL.nil | exact SelL.self | apply SelL.cons | exact Sel.here | apply Sel.there | apply SelL.skip)) ?_
                refine WO.yld (by rfl) (wanted_plain (by rfl)) (yld_loadS (by rfl) (by exact Try.isAgg26) (by repeat (first | exact .here | apply Sel.there)) (by first | rfl | assumption | (simp; done) | (simp [*]; done))) (by rfl) (by decide) (by repeat (first | exact SelL.nil | exact SelL.self | apply SelL.cons | exact Sel.here | apply Sel.there | apply SelL.skip)) ?_
                refine WO.yld (by rfl) (wanted_plain (by rfl)) (yld_nilCheck (by rfl)) (by rfl) (by decide) (by repeat (first | exact SelL.nil | exact SelL.self | apply SelL.cons | exact Sel.here | apply Sel.there | apply SelL.skip)) ?_
                refine WO.yld (by rfl) (wanted_plain (by rfl)) (yld_fieldAddr (by rfl) (by exact Try.runUnderlying50) (by rfl) (by exact Try.sizeOf42) (by rfl) (by rfl)) (by rfl) (by decide) (by repeat (first | exact SelL.nil | exact SelL.self | apply SelL.cons | exact Sel.here | apply Sel.there | apply SelL.skip)) ?_
                refine WO.yld (by rfl) (wanted_plain (by rfl)) (yld_load (by rfl) (by exact Try.isAgg42) (by repeat (first | exact .here | apply Sel.there)) (by rfl)) (by rfl) (by decide) (by repeat (first | exact SelL.nil | exact SelL.self | apply SelL.cons | exact Sel.here | apply Sel.there | apply SelL.skip)) ?_
                refine WO.yld (by rfl) (wanted_plain (by rfl)) (yld_len (by rfl) (by exact Try.runUnderlying42)) (by rfl) (by decide) (by repeat (first | exact SelL.nil | exact SelL.self | apply SelL.cons | exact Sel.here | apply Sel.there | apply SelL.skip)) ?_
                refine WO.yld (by rfl) (wanted_plain (by rfl)) (yld_move (by rfl)) (by rfl) (by decide) (by repeat (first | exact SelL.nil | exact SelL.self | apply SelL.cons | exact Sel.here | apply Sel.there | apply SelL.skip)) ?_
                refine WO.yld (by rfl) (wanted_plain (by rfl)) (yld_move (by rfl)) (by rfl) (by decide) (by repeat (first | exact SelL.nil | exact SelL.self | apply SelL.cons | exact Sel.here | apply Sel.there | apply SelL.skip)) ?_
                refine WO.yld (by rfl) (wanted_plain (by rfl)) (yld_indexAddrS (by rfl) (by rfl) (by exact Try.runUnderlying25) (by exact Try.sizeOf26) (by repeat (first | exact .here | apply Sel.there)) (0) (by first | rfl | omega) (by omega) (by omega) (by exact Nat.mul_one _)) (by rfl) (by decide) (by repeat (first | exact SelL.nil | exact SelL.self | apply SelL.cons | exact Sel.here | apply Sel.there | apply SelL.skip)) ?_
                refine WO.yld (by rfl) (wanted_plain (by rfl)) (yld_loadS (by rfl) (by exact Try.isAgg26) (by repeat (first | exact .here | apply Sel.there)) (by first | rfl | assumption | (simp; done) | (simp [*]; done))) (by rfl) (by decide) (by repeat (first | exact SelL.nil | exact SelL.self | apply SelL.cons | exact Sel.here | apply Sel.there | apply SelL.skip)) ?_
                refine WO.yld (by rfl) (wanted_plain (by rfl)) (yld_nilCheck (by rfl)) (by rfl) (by decide) (by repeat (first | exact SelL.nil | exact SelL.self | apply SelL.cons | exact Sel.here | apply Sel.there | apply SelL.skip)) ?_
                refine WO.yld (by rfl) (wanted_plain (by rfl)) (yld_fieldAddr (by rfl) (by exact Try.runUnderlying50) (by rfl) (by exact Try.sizeOf3) (by rfl) (by rfl)) (by rfl) (by decide) (by repeat (first | exact SelL.nil | exact SelL.self | apply SelL.cons | exact Sel.here | apply Sel.there | apply SelL.skip)) ?_
                refine WO.yld (by rfl) (wanted_plain (by rfl)) (yld_load (by rfl) (by exact Try.isAgg3) (by repeat (first | exact .here | apply Sel.there)) (by rfl)) (by rfl) (by decide) (by repeat (first | exact SelL.nil | exact SelL.self | apply SelL.cons | exact Sel.here | apply Sel.there | apply SelL.skip)) ?_
                refine WO.yld (by rfl) (wanted_plain (by rfl)) (yld_sub (by rfl) (by rfl) (by first | exact w64 (by omega) (by omega) | rfl)) (by rfl) (by decide) (by repeat (first | exact SelL.nil | exact SelL.self | apply SelL.cons | exact Sel.here | apply Sel.there | apply SelL.skip)) ?_
                refine WO.eff (by rfl) (wanted_plain (by rfl)) (eff_call (by exact Try.call22) (by repeat (first | exact Evs.nil | apply Evs.cons | rfl)) (by repeat (first | exact SelL.nil | exact SelL.self | apply SelL.cons | exact Sel.here | apply Sel.there | apply SelL.skip)) (waiting_spec q0 e0)) (by rfl) (by decide) (by intro x; repeat (first | exact SelL.nil | exact SelL.self | apply SelL.cons | exact Sel.here | apply Sel.there | apply SelL.skip)) ?_
                rintro _ -
                rw [hw9]
                try dsimp only
                refine WO.yld (by rfl) (wanted_plain (by rfl)) (yld_neq (by rfl) (by rfl)) (by rfl) (by decide) (by repeat (first | exact SelL.nil | exact SelL.self | apply SelL.cons | exact Sel.here | apply Sel.there | apply SelL.skip)) ?_
                refine WO.done ?_
                refine WK.cond (by rfl) (fun hc213 => ?_) (fun hc213 => ?_)
                · skip
                  have hc213 := of_decide_eq_true hc213
                  omega
                · skip
                  have hc213 := of_decide_eq_false hc213
                  refine WK.skip ?_
                  refine WK.endBlock ?_
                  refine WK.region ?_
                  refine WL.yld (wanted_plain (by rfl)) (yld_move (by rfl)) (by rfl) (by decide) ?_
                  refine WL.yld (wanted_plain (by rfl)) (yld_add (by rfl) (by rfl) (by first | exact w64 (by omega) (by omega) | rfl)) (by rfl) (by decide) ?_
                  refine WL.yld (wanted_plain (by rfl)) (yld_assign (by rfl)) (by rfl) (by decide) ?_
                  refine WL.done ?_
                  refine WK.sat (fun w s => Sat.refShut ⟨sad, slen, scap, svs, had, hlen, hcap, hvs⟩ (s.sel (As := refL m0 r0 ⟨sad, slen, scap, svs, had, hlen, hcap, hvs⟩) (by (try dsimp only [roL, mL, refL, List.cons_append, List.nil_append]); exact (by repeat (first | exact SelL.nil | exact SelL.self | apply SelL.cons | exact Sel.here | apply Sel.there | apply SelL.skip))))) ?_
                  exact WK.next hN4 (0 + 1) (by omega) (by omega) (by repeat (first | exact KK.nil | refine KK.cons (by first | rfl | (simp; done)) ?_)) (by repeat (first | exact SelL.nil | exact SelL.self | apply SelL.cons | exact Sel.here | apply Sel.there | apply SelL.skip))
              · skip
                refine WK.skip ?_
                refine WK.seq ?_
                refine WK.block ?_
                refine WK.seq ?_
                refine WK.openS (fun w s => Sat.refOpen (s.sel1 (A := refR m1 r1) (by repeat (first | exact .here | apply Sel.there)))) ?_
                rintro ⟨sad, slen, scap, svs, had, hlen, hcap, hvs⟩ -
                dsimp only [refL, List.cons_append, List.nil_append]
                refine WK.know (fun w s => And.intro (Sat.slLen (s.sel1 (A := sl true 31 1 sad slen scap svs) (by repeat (first | exact .here | apply Sel.there)))) (Sat.allLen (s.sel1 (A := allR (byt 5 false) svs r1.sent) (by repeat (first | exact .here | apply Sel.there))))) (fun hkn => ?_)
                obtain ⟨⟨g1, -⟩, g2⟩ := hkn
                have g3 : r1.sent.length = slen := by omega
                have hw9 : e1.waiting.length = r1.sent.length - x1 := by rw [v1.wait, List.length_drop]
                refine WK.drawn (by kernel_rfl) [(0, 0), (1, 0), (2, 0), (3, 0), (5, 0), (6, 0), (7, 0), (8, 0), (9, 0), (10, 0), (11, 0), (12, 0), (13, 0), (14, 0), (15, 0), (16, 0), (17, 0), (18, 0), (19, 0), (20, 0), (4, 1), (21, 0)] [sl true 33 1 (some ⟨eb, 0, none⟩) 2 2 [.pointer (some ⟨q0, 0, none⟩), .pointer (some ⟨q1, 0, none⟩)], sl true 26 1 ma 2 mc [.pointer (some ⟨m0, 0, none⟩), .pointer (some ⟨m1, 0, none⟩)], row true m1 50 [.int .i64 r1.window, .slice sad slen scap, .int .i64 r1.acked, .int .i64 r1.got, .slice had hlen hcap, .bool r1.owing]] (by kernel_rfl) (by kernel_rfl) (by kernel_rfl) ?_
                refine WO.yld (by rfl) (wanted_plain (by rfl)) (yld_move (by rfl)) (by rfl) (by decide) (by repeat (first | exact SelL.nil | exact SelL.self | apply SelL.cons | exact Sel.here | apply Sel.there | apply SelL.skip)) ?_
                refine WO.yld (by rfl) (wanted_plain (by rfl)) (yld_move (by rfl)) (by rfl) (by decide) (by repeat (first | exact SelL.nil | exact SelL.self | apply SelL.cons | exact Sel.here | apply Sel.there | apply SelL.skip)) ?_
                refine WO.yld (by rfl) (wanted_plain (by rfl)) (yld_indexAddrS (by rfl) (by rfl) (by exact Try.runUnderlying23) (by exact Try.sizeOf33) (by repeat (first | exact .here | apply Sel.there)) (1) (by first | rfl | omega) (by omega) (by omega) (by exact Nat.mul_one _)) (by rfl) (by decide) (by repeat (first | exact SelL.nil | exact SelL.self | apply SelL.cons | exact Sel.here | apply Sel.there | apply SelL.skip)) ?_
                refine WO.yld (by rfl) (wanted_plain (by rfl)) (yld_loadS (by rfl) (by exact Try.isAgg33) (by repeat (first | exact .here | apply Sel.there)) (by first | rfl | assumption | (simp; done) | (simp [*]; done))) (by rfl) (by decide) (by repeat (first | exact SelL.nil | exact SelL.self | apply SelL.cons | exact Sel.here | apply Sel.there | apply SelL.skip)) ?_
                refine WO.yld (by rfl) (wanted_plain (by rfl)) (yld_move (by rfl)) (by rfl) (by decide) (by repeat (first | exact SelL.nil | exact SelL.self | apply SelL.cons | exact Sel.here | apply Sel.there | apply SelL.skip)) ?_
                refine WO.yld (by rfl) (wanted_plain (by rfl)) (yld_move (by rfl)) (by rfl) (by decide) (by repeat (first | exact SelL.nil | exact SelL.self | apply SelL.cons | exact Sel.here | apply Sel.there | apply SelL.skip)) ?_
                refine WO.yld (by rfl) (wanted_plain (by rfl)) (yld_indexAddrS (by rfl) (by rfl) (by exact Try.runUnderlying25) (by exact Try.sizeOf26) (by repeat (first | exact .here | apply Sel.there)) (1) (by first | rfl | omega) (by omega) (by omega) (by exact Nat.mul_one _)) (by rfl) (by decide) (by repeat (first | exact SelL.nil | exact SelL.self | apply SelL.cons | exact Sel.here | apply Sel.there | apply SelL.skip)) ?_
                refine WO.yld (by rfl) (wanted_plain (by rfl)) (yld_loadS (by rfl) (by exact Try.isAgg26) (by repeat (first | exact .here | apply Sel.there)) (by first | rfl | assumption | (simp; done) | (simp [*]; done))) (by rfl) (by decide) (by repeat (first | exact SelL.nil | exact SelL.self | apply SelL.cons | exact Sel.here | apply Sel.there | apply SelL.skip)) ?_
                refine WO.yld (by rfl) (wanted_plain (by rfl)) (yld_nilCheck (by rfl)) (by rfl) (by decide) (by repeat (first | exact SelL.nil | exact SelL.self | apply SelL.cons | exact Sel.here | apply Sel.there | apply SelL.skip)) ?_
                refine WO.yld (by rfl) (wanted_plain (by rfl)) (yld_fieldAddr (by rfl) (by exact Try.runUnderlying50) (by rfl) (by exact Try.sizeOf42) (by rfl) (by rfl)) (by rfl) (by decide) (by repeat (first | exact SelL.nil | exact SelL.self | apply SelL.cons | exact Sel.here | apply Sel.there | apply SelL.skip)) ?_
                refine WO.yld (by rfl) (wanted_plain (by rfl)) (yld_load (by rfl) (by exact Try.isAgg42) (by repeat (first | exact .here | apply Sel.there)) (by rfl)) (by rfl) (by decide) (by repeat (first | exact SelL.nil | exact SelL.self | apply SelL.cons | exact Sel.here | apply Sel.there | apply SelL.skip)) ?_
                refine WO.yld (by rfl) (wanted_plain (by rfl)) (yld_len (by rfl) (by exact Try.runUnderlying42)) (by rfl) (by decide) (by repeat (first | exact SelL.nil | exact SelL.self | apply SelL.cons | exact Sel.here | apply Sel.there | apply SelL.skip)) ?_
                refine WO.yld (by rfl) (wanted_plain (by rfl)) (yld_move (by rfl)) (by rfl) (by decide) (by repeat (first | exact SelL.nil | exact SelL.self | apply SelL.cons | exact Sel.here | apply Sel.there | apply SelL.skip)) ?_
                refine WO.yld (by rfl) (wanted_plain (by rfl)) (yld_move (by rfl)) (by rfl) (by decide) (by repeat (first | exact SelL.nil | exact SelL.self | apply SelL.cons | exact Sel.here | apply Sel.there | apply SelL.skip)) ?_
                refine WO.yld (by rfl) (wanted_plain (by rfl)) (yld_indexAddrS (by rfl) (by rfl) (by exact Try.runUnderlying25) (by exact Try.sizeOf26) (by repeat (first | exact .here | apply Sel.there)) (1) (by first | rfl | omega) (by omega) (by omega) (by exact Nat.mul_one _)) (by rfl) (by decide) (by repeat (first | exact SelL.nil | exact SelL.self | apply SelL.cons | exact Sel.here | apply Sel.there | apply SelL.skip)) ?_
                refine WO.yld (by rfl) (wanted_plain (by rfl)) (yld_loadS (by rfl) (by exact Try.isAgg26) (by repeat (first | exact .here | apply Sel.there)) (by first | rfl | assumption | (simp; done) | (simp [*]; done))) (by rfl) (by decide) (by repeat (first | exact SelL.nil | exact SelL.self | apply SelL.cons | exact Sel.here | apply Sel.there | apply SelL.skip)) ?_
                refine WO.yld (by rfl) (wanted_plain (by rfl)) (yld_nilCheck (by rfl)) (by rfl) (by decide) (by repeat (first | exact SelL.nil | exact SelL.self | apply SelL.cons | exact Sel.here | apply Sel.there | apply SelL.skip)) ?_
                refine WO.yld (by rfl) (wanted_plain (by rfl)) (yld_fieldAddr (by rfl) (by exact Try.runUnderlying50) (by rfl) (by exact Try.sizeOf3) (by rfl) (by rfl)) (by rfl) (by decide) (by repeat (first | exact SelL.nil | exact SelL.self | apply SelL.cons | exact Sel.here | apply Sel.there | apply SelL.skip)) ?_
                refine WO.yld (by rfl) (wanted_plain (by rfl)) (yld_load (by rfl) (by exact Try.isAgg3) (by repeat (first | exact .here | apply Sel.there)) (by rfl)) (by rfl) (by decide) (by repeat (first | exact SelL.nil | exact SelL.self | apply SelL.cons | exact Sel.here | apply Sel.there | apply SelL.skip)) ?_
                refine WO.yld (by rfl) (wanted_plain (by rfl)) (yld_sub (by rfl) (by rfl) (by first | exact w64 (by omega) (by omega) | rfl)) (by rfl) (by decide) (by repeat (first | exact SelL.nil | exact SelL.self | apply SelL.cons | exact Sel.here | apply Sel.there | apply SelL.skip)) ?_
                refine WO.eff (by rfl) (wanted_plain (by rfl)) (eff_call (by exact Try.call22) (by repeat (first | exact Evs.nil | apply Evs.cons | rfl)) (by repeat (first | exact SelL.nil | exact SelL.self | apply SelL.cons | exact Sel.here | apply Sel.there | apply SelL.skip)) (waiting_spec q1 e1)) (by rfl) (by decide) (by intro x; repeat (first | exact SelL.nil | exact SelL.self | apply SelL.cons | exact Sel.here | apply Sel.there | apply SelL.skip)) ?_
                rintro _ -
                rw [hw9]
                try dsimp only
                refine WO.yld (by rfl) (wanted_plain (by rfl)) (yld_neq (by rfl) (by rfl)) (by rfl) (by decide) (by repeat (first | exact SelL.nil | exact SelL.self | apply SelL.cons | exact Sel.here | apply Sel.there | apply SelL.skip)) ?_
                refine WO.done ?_
                refine WK.cond (by rfl) (fun hc213 => ?_) (fun hc213 => ?_)
                · skip
                  have hc213 := of_decide_eq_true hc213
                  omega
                · skip
                  have hc213 := of_decide_eq_false hc213
                  refine WK.skip ?_
                  refine WK.endBlock ?_
                  refine WK.region ?_
                  refine WL.yld (wanted_plain (by rfl)) (yld_move (by rfl)) (by rfl) (by decide) ?_
                  refine WL.yld (wanted_plain (by rfl)) (yld_add (by rfl) (by rfl) (by first | exact w64 (by omega) (by omega) | rfl)) (by rfl) (by decide) ?_
                  refine WL.yld (wanted_plain (by rfl)) (yld_assign (by rfl)) (by rfl) (by decide) ?_
                  refine WL.done ?_
                  refine WK.sat (fun w s => Sat.refShut ⟨sad, slen, scap, svs, had, hlen, hcap, hvs⟩ (s.sel (As := refL m1 r1 ⟨sad, slen, scap, svs, had, hlen, hcap, hvs⟩) (by (try dsimp only [roL, mL, refL, List.cons_append, List.nil_append]); exact (by repeat (first | exact SelL.nil | exact SelL.self | apply SelL.cons | exact Sel.here | apply Sel.there | apply SelL.skip))))) ?_
                  exact WK.next hN4 (1 + 1) (by omega) (by omega) (by repeat (first | exact KK.nil | refine KK.cons (by first | rfl | (simp; done)) ?_)) (by repeat (first | exact SelL.nil | exact SelL.self | apply SelL.cons | exact Sel.here | apply Sel.there | apply SelL.skip))
            · skip
              have hc189 := of_decide_eq_false hc189
              refine WK.exit ?_
              repeat (first | refine XQ.then_ ?_ | refine XQ.block (by rfl) ?_)
              refine XQ.here ?_
              refine WK.endBlock ?_
              refine WK.region ?_
              refine WL.yld (wanted_plain (by rfl)) (yld_move (by rfl)) (by rfl) (by decide) ?_
              refine WL.yld (wanted_plain (by rfl)) (yld_add (by rfl) (by rfl) (by first | exact w64 (by omega) (by omega) | rfl)) (by rfl) (by decide) ?_
              refine WL.yld (wanted_plain (by rfl)) (yld_assign (by rfl)) (by rfl) (by decide) ?_
              refine WL.done ?_
              exact WK.next hN (i + 1, ⟨e0, e1, r0, r1, L, la, ll, lc, lv, ta, tl, tc⟩) ⟨by dsimp only; omega, hJ⟩ (by dsimp only; omega) (by repeat (first | exact KK.nil | refine KK.cons (by first | rfl | (simp; done)) ?_)) (by (try dsimp only [roL, mL, refL, List.cons_append, List.nil_append]); exact (by repeat (first | exact SelL.nil | exact SelL.self | apply SelL.cons | exact Sel.here | apply Sel.there | apply SelL.skip)))
          · intro JB4
            refine WK.block ?_
            refine WK.seq ?_
            refine WK.seq ?_
            refine WK.region ?_
            refine WL.yld (wanted_plain (by rfl)) (yld_eql (by rfl) (by rfl)) (by rfl) (by decide) ?_
            refine WL.yld (wanted_plain (by rfl)) (yld_assign (by rfl)) (by rfl) (by decide) ?_
            refine WL.done ?_
            refine WK.cut (ι := Bool) (fun _ => True) (fun x => [(1, .slice a1 len1 cap1), (5, .slice (some ⟨eb, 0, none⟩) 2 2), (6, .slice ma 2 mc), (10, .slice la ll lc), (11, .slice ta tl tc), (12, .int .i64 (i : Int)), (13, .int .i64 (nn : Int)), (14, .int .i64 ((nn % 2 : Nat) : Int)), (71, .int .i64 c), (132, .bool x)]) (fun _ => endR q0 e0 :: endR q1 e1 :: refR m0 r0 :: refR m1 r1 :: sl true 33 1 (some ⟨eb, 0, none⟩) 2 2 [.pointer (some ⟨q0, 0, none⟩), .pointer (some ⟨q1, 0, none⟩)] :: sl true 26 1 ma 2 mc [.pointer (some ⟨m0, 0, none⟩), .pointer (some ⟨m1, 0, none⟩)] :: sl true 40 3 la ll lc (pktC (L.map (·.1)) lv) :: allR (byt 5 false) lv (L.map (·.1.b)) :: sl true 3 1 ta tl tc (L.map fun p => .int .i64 p.2) :: slr 1 a1 len1 (zs.map (Value.int .i64)) :: F) ?_ ?_
            · skip
              rintro x132 -
              refine WK.cond (by rfl) (fun hc132 => ?_) (fun hc132 => ?_)
              · skip
                refine WK.seq ?_
                refine WK.region ?_
                refine WL.yld (wanted_plain (by rfl)) (yld_move (by rfl)) (by rfl) (by decide) ?_
                refine WL.yld (wanted_plain (by rfl)) (yld_convInt (by rfl) (by exact Try.runUnderlying3) (by exact Try.runUnderlying5) u8wrap4) (by rfl) (by decide) ?_
                refine WL.yld (wanted_plain (by rfl)) (yld_move (by rfl)) (by rfl) (by decide) ?_
                refine WL.yld (wanted_plain (by rfl)) (yld_convInt (by rfl) (by exact Try.runUnderlying3) (by exact Try.runUnderlying5) u8wrap4) (by rfl) (by decide) ?_
                refine WL.eff (wanted_plain (by rfl)) (eff_mkSliceN (by exact Try.runUnderlying31) (by exact Try.sizeOf5) (by exact Try.zeroValue5) (by repeat (first | exact PrtsN.nil | apply PrtsN.cons | rfl)) (by decide) (by rfl) (by rfl) (by rfl) (by rfl)) (by rfl) (by decide) ?_
                rintro b139 -
                try dsimp only [List.cons_append, List.nil_append]
                try dsimp only
                refine WL.yld (wanted_plain (by rfl)) (yld_assign (by rfl)) (by rfl) (by decide) ?_
                refine WL.done ?_
                refine WK.seq ?_
                refine WK.drawn (by kernel_rfl) [(0, 0), (1, 0), (2, 0), (3, 0), (4, 0), (6, 0), (7, 0), (8, 0), (9, 0), (10, 0), (5, 1), (11, 1), (12, 0)] [sl true 33 1 (some ⟨eb, 0, none⟩) 2 2 [.pointer (some ⟨q0, 0, none⟩), .pointer (some ⟨q1, 0, none⟩)], sl true 26 1 ma 2 mc [.pointer (some ⟨m0, 0, none⟩), .pointer (some ⟨m1, 0, none⟩)]] (by kernel_rfl) (by kernel_rfl) (by kernel_rfl) ?_
                obtain hk | hk : nn % 2 = 0 ∨ nn % 2 = 1 := by omega
                · skip
                  refine WO.yld (by rfl) (wanted_plain (by rfl)) (yld_move (by rfl)) (by rfl) (by decide) (by repeat (first | exact SelL.nil | exact SelL.self | apply SelL.cons | exact Sel.here | apply Sel.there | apply SelL.skip)) ?_
                  refine WO.yld (by rfl) (wanted_plain (by rfl)) (yld_move (by rfl)) (by rfl) (by decide) (by repeat (first | exact SelL.nil | exact SelL.self | apply SelL.cons | exact Sel.here | apply Sel.there | apply SelL.skip)) ?_
                  refine WO.yld (by rfl) (wanted_plain (by rfl)) (yld_indexAddrS (by rfl) (by rfl) (by exact Try.runUnderlying23) (by exact Try.sizeOf33) (by repeat (first | exact .here | apply Sel.there)) (0) (by first | rfl | omega) (by omega) (by omega) (by exact Nat.mul_one _)) (by rfl) (by decide) (by repeat (first | exact SelL.nil | exact SelL.self | apply SelL.cons | exact Sel.here | apply Sel.there | apply SelL.skip)) ?_
                  refine WO.yld (by rfl) (wanted_plain (by rfl)) (yld_loadS (by rfl) (by exact Try.isAgg33) (by repeat (first | exact .here | apply Sel.there)) (by first | rfl | assumption | (simp; done) | (simp [*]; done))) (by rfl) (by decide) (by repeat (first | exact SelL.nil | exact SelL.self | apply SelL.cons | exact Sel.here | apply Sel.there | apply SelL.skip)) ?_
                  refine WO.yld (by rfl) (wanted_plain (by rfl)) (yld_move (by rfl)) (by rfl) (by decide) (by repeat (first | exact SelL.nil | exact SelL.self | apply SelL.cons | exact Sel.here | apply Sel.there | apply SelL.skip)) ?_
                  refine WO.yld (by rfl) (wanted_plain (by rfl)) (yld_move (by rfl)) (by rfl) (by decide) (by repeat (first | exact SelL.nil | exact SelL.self | apply SelL.cons | exact Sel.here | apply Sel.there | apply SelL.skip)) ?_
                  refine WO.yld (by rfl) (wanted_plain (by rfl)) (yld_move (by rfl)) (by rfl) (by decide) (by repeat (first | exact SelL.nil | exact SelL.self | apply SelL.cons | exact Sel.here | apply Sel.there | apply SelL.skip)) ?_
                  refine WO.yld (by rfl) (wanted_plain (by rfl)) (yld_indexAddrS (by rfl) (by rfl) (by exact Try.runUnderlying25) (by exact Try.sizeOf26) (by repeat (first | exact .here | apply Sel.there)) (0) (by first | rfl | omega) (by omega) (by omega) (by exact Nat.mul_one _)) (by rfl) (by decide) (by repeat (first | exact SelL.nil | exact SelL.self | apply SelL.cons | exact Sel.here | apply Sel.there | apply SelL.skip)) ?_
                  refine WO.yld (by rfl) (wanted_plain (by rfl)) (yld_loadS (by rfl) (by exact Try.isAgg26) (by repeat (first | exact .here | apply Sel.there)) (by first | rfl | assumption | (simp; done) | (simp [*]; done))) (by rfl) (by decide) (by repeat (first | exact SelL.nil | exact SelL.self | apply SelL.cons | exact Sel.here | apply Sel.there | apply SelL.skip)) ?_
                  refine WO.yld (by rfl) (wanted_plain (by rfl)) (yld_move (by rfl)) (by rfl) (by decide) (by repeat (first | exact SelL.nil | exact SelL.self | apply SelL.cons | exact Sel.here | apply Sel.there | apply SelL.skip)) ?_
                  refine WO.eff (by rfl) (wanted_plain (by rfl)) (eff_call (by exact Try.call13) (by repeat (first | exact Evs.nil | apply Evs.cons | rfl)) (by repeat (first | exact SelL.nil | exact SelL.self | apply SelL.cons | exact Sel.here | apply Sel.there | apply SelL.skip)) (send_spec q0 e0 true (some ⟨b139, 0, none⟩) 2 [UInt8.ofNat i, UInt8.ofNat nn] (by simp))) (by rfl) (by decide) (by intro x; repeat (first | exact SelL.nil | exact SelL.self | apply SelL.cons | exact Sel.here | apply Sel.there | apply SelL.skip)) ?_
                  rintro _ -
                  obtain ⟨hs1, hs2, hs3⟩ := Rel.send (b := [UInt8.ofNat i, UInt8.ofNat nn]) v0 (by omega) (by simp)
                  rw [hs1]
                  try dsimp only
                  refine WO.sat (fun w s => (s.sel1 (A := sl true 5 1 (some ⟨b139, 0, none⟩) 2 2 ([UInt8.ofNat i, UInt8.ofNat nn].map bv)) (by repeat (first | exact .here | apply Sel.there))).slFreeze) ?_
                  refine WO.eff (by rfl) (wanted_plain (by rfl)) (eff_call (by exact Try.call14) (by repeat (first | exact Evs.nil | apply Evs.cons | rfl)) (by repeat (first | exact SelL.nil | exact SelL.self | apply SelL.cons | exact Sel.here | apply Sel.there | apply SelL.skip)) (refSend_spec m0 r0 (by omega) (by omega) (some ⟨b139, 0, none⟩) 2 [UInt8.ofNat i, UInt8.ofNat nn] (by simp))) (by rfl) (by decide) (by intro x; repeat (first | exact SelL.nil | exact SelL.self | apply SelL.cons | exact Sel.here | apply Sel.there | apply SelL.skip)) ?_
                  rintro _ -
                  rw [hs2]
                  try dsimp only
                  refine WO.yld (by rfl) (wanted_plain (by rfl)) (yld_neq (by rfl) (by rfl)) (by rfl) (by decide) (by repeat (first | exact SelL.nil | exact SelL.self | apply SelL.cons | exact Sel.here | apply Sel.there | apply SelL.skip)) ?_
                  refine WO.done ?_
                  refine WK.cond (by rfl) (fun hc152 => ?_) (fun hc152 => ?_)
                  · skip
                    have hc152 := of_decide_eq_true hc152
                    first | omega | exact absurd rfl hc152 | (simp at hc152; done) | (exact absurd hc152 (by decide))
                  · skip
                    have hc152 := of_decide_eq_false hc152
                    refine WK.skip ?_
                    refine WK.endBlock ?_
                    exact WK.goto JB4 ⟨{ e0 with waiting := e0.waiting ++ [[UInt8.ofNat i, UInt8.ofNat nn]] }, e1, { r0 with sent := r0.sent ++ [[UInt8.ofNat i, UInt8.ofNat nn]] }, r1, L, la, ll, lc, lv, ta, tl, tc⟩ ⟨⟨_, hs3⟩, ⟨x1, v1.mono⟩, hlink, (by dsimp only; omega)⟩ (by repeat (first | exact KK.nil | refine KK.cons (by first | rfl | (simp; done)) ?_)) (by (try dsimp only [roL, mL, refL, List.cons_append, List.nil_append]); exact (by repeat (first | exact SelL.nil | exact SelL.self | apply SelL.cons | exact Sel.here | apply Sel.there | apply SelL.skip)))
                · skip
                  refine WO.yld (by rfl) (wanted_plain (by rfl)) (yld_move (by rfl)) (by rfl) (by decide) (by repeat (first | exact SelL.nil | exact SelL.self | apply SelL.cons | exact Sel.here | apply Sel.there | apply SelL.skip)) ?_
                  refine WO.yld (by rfl) (wanted_plain (by rfl)) (yld_move (by rfl)) (by rfl) (by decide) (by repeat (first | exact SelL.nil | exact SelL.self | apply SelL.cons | exact Sel.here | apply Sel.there | apply SelL.skip)) ?_
                  refine WO.yld (by rfl) (wanted_plain (by rfl)) (yld_indexAddrS (by rfl) (by rfl) (by exact Try.runUnderlying23) (by exact Try.sizeOf33) (by repeat (first | exact .here | apply Sel.there)) (1) (by first | rfl | omega) (by omega) (by omega) (by exact Nat.mul_one _)) (by rfl) (by decide) (by repeat (first | exact SelL.nil | exact SelL.self | apply SelL.cons | exact Sel.here | apply Sel.there | apply SelL.skip)) ?_
                  refine WO.yld (by rfl) (wanted_plain (by rfl)) (yld_loadS (by rfl) (by exact Try.isAgg33) (by repeat (first | exact .here | apply Sel.there)) (by first | rfl | assumption | (simp; done) | (simp [*]; done))) (by rfl) (by decide) (by repeat (first | exact SelL.nil | exact SelL.self | apply SelL.cons | exact Sel.here | apply Sel.there | apply SelL.skip)) ?_
                  refine WO.yld (by rfl) (wanted_plain (by rfl)) (yld_move (by rfl)) (by rfl) (by decide) (by repeat (first | exact SelL.nil | exact SelL.self | apply SelL.cons | exact Sel.here | apply Sel.there | apply SelL.skip)) ?_
                  refine WO.yld (by rfl) (wanted_plain (by rfl)) (yld_move (by rfl)) (by rfl) (by decide) (by repeat (first | exact SelL.nil | exact SelL.self | apply SelL.cons | exact Sel.here | apply Sel.there | apply SelL.skip)) ?_
                  refine WO.yld (by rfl) (wanted_plain (by rfl)) (yld_move (by rfl)) (by rfl) (by decide) (by repeat (first | exact SelL.nil | exact SelL.self | apply SelL.cons | exact Sel.here | apply Sel.there | apply SelL.skip)) ?_
                  refine WO.yld (by rfl) (wanted_plain (by rfl)) (yld_indexAddrS (by rfl) (by rfl) (by exact Try.runUnderlying25) (by exact Try.sizeOf26) (by repeat (first | exact .here | apply Sel.there)) (1) (by first | rfl | omega) (by omega) (by omega) (by exact Nat.mul_one _)) (by rfl) (by decide) (by repeat (first | exact SelL.nil | exact SelL.self | apply SelL.cons | exact Sel.here | apply Sel.there | apply SelL.skip)) ?_
                  refine WO.yld (by rfl) (wanted_plain (by rfl)) (yld_loadS (by rfl) (by exact Try.isAgg26) (by repeat (first | exact .here | apply Sel.there)) (by first | rfl | assumption | (simp; done) | (simp [*]; done))) (by rfl) (by decide) (by repeat (first | exact SelL.nil | exact SelL.self | apply SelL.cons | exact Sel.here | apply Sel.there | apply SelL.skip)) ?_
                  refine WO.yld (by rfl) (wanted_plain (by rfl)) (yld_move (by rfl)) (by rfl) (by decide) (by repeat (first | exact SelL.nil | exact SelL.self | apply SelL.cons | exact Sel.here | apply Sel.there | apply SelL.skip)) ?_
                  refine WO.eff (by rfl) (wanted_plain (by rfl)) (eff_call (by exact Try.call13) (by repeat (first | exact Evs.nil | apply Evs.cons | rfl)) (by repeat (first | exact SelL.nil | exact SelL.self | apply SelL.cons | exact Sel.here | apply Sel.there | apply SelL.skip)) (send_spec q1 e1 true (some ⟨b139, 0, none⟩) 2 [UInt8.ofNat i, UInt8.ofNat nn] (by simp))) (by rfl) (by decide) (by intro x; repeat (first | exact SelL.nil | exact SelL.self | apply SelL.cons | exact Sel.here | apply Sel.there | apply SelL.skip)) ?_
                  rintro _ -
                  obtain ⟨hs1, hs2, hs3⟩ := Rel.send (b := [UInt8.ofNat i, UInt8.ofNat nn]) v1 (by omega) (by simp)
                  rw [hs1]
                  try dsimp only
                  refine WO.sat (fun w s => (s.sel1 (A := sl true 5 1 (some ⟨b139, 0, none⟩) 2 2 ([UInt8.ofNat i, UInt8.ofNat nn].map bv)) (by repeat (first | exact .here | apply Sel.there))).slFreeze) ?_
                  refine WO.eff (by rfl) (wanted_plain (by rfl)) (eff_call (by exact Try.call14) (by repeat (first | exact Evs.nil | apply Evs.cons | rfl)) (by repeat (first | exact SelL.nil | exact SelL.self | apply SelL.cons | exact Sel.here | apply Sel.there | apply SelL.skip)) (refSend_spec m1 r1 (by omega) (by omega) (some ⟨b139, 0, none⟩) 2 [UInt8.ofNat i, UInt8.ofNat nn] (by simp))) (by rfl) (by decide) (by intro x; repeat (first | exact SelL.nil | exact SelL.self | apply SelL.cons | exact Sel.here | apply Sel.there | apply SelL.skip)) ?_
                  rintro _ -
                  rw [hs2]
                  try dsimp only
                  refine WO.yld (by rfl) (wanted_plain (by rfl)) (yld_neq (by rfl) (by rfl)) (by rfl) (by decide) (by repeat (first | exact SelL.nil | exact SelL.self | apply SelL.cons | exact Sel.here | apply Sel.there | apply SelL.skip)) ?_
                  refine WO.done ?_
                  refine WK.cond (by rfl) (fun hc152 => ?_) (fun hc152 => ?_)
                  · skip
                    have hc152 := of_decide_eq_true hc152
                    first | omega | exact absurd rfl hc152 | (simp at hc152; done) | (exact absurd hc152 (by decide))
                  · skip
                    have hc152 := of_decide_eq_false hc152
                    refine WK.skip ?_
                    refine WK.endBlock ?_
                    exact WK.goto JB4 ⟨e0, { e1 with waiting := e1.waiting ++ [[UInt8.ofNat i, UInt8.ofNat nn]] }, r0, { r1 with sent := r1.sent ++ [[UInt8.ofNat i, UInt8.ofNat nn]] }, L, la, ll, lc, lv, ta, tl, tc⟩ ⟨⟨x0, v0.mono⟩, ⟨_, hs3⟩, hlink, (by dsimp only; omega)⟩ (by repeat (first | exact KK.nil | refine KK.cons (by first | rfl | (simp; done)) ?_)) (by (try dsimp only [roL, mL, refL, List.cons_append, List.nil_append]); exact (by repeat (first | exact SelL.nil | exact SelL.self | apply SelL.cons | exact Sel.here | apply Sel.there | apply SelL.skip)))
              · skip
                refine WK.seq ?_
                refine WK.seq ?_
                refine WK.region ?_
                refine WL.yld (wanted_plain (by rfl)) (yld_eql (by rfl) (by rfl)) (by rfl) (by decide) ?_
                refine WL.yld (wanted_plain (by rfl)) (yld_assign (by rfl)) (by rfl) (by decide) ?_
                refine WL.done ?_
                refine WK.cut (ι := Bool) (fun _ => True) (fun x => [(1, .slice a1 len1 cap1), (5, .slice (some ⟨eb, 0, none⟩) 2 2), (6, .slice ma 2 mc), (10, .slice la ll lc), (11, .slice ta tl tc), (12, .int .i64 (i : Int)), (13, .int .i64 (nn : Int)), (14, .int .i64 ((nn % 2 : Nat) : Int)), (71, .int .i64 c), (153, .bool x)]) (fun _ => endR q0 e0 :: endR q1 e1 :: refR m0 r0 :: refR m1 r1 :: sl true 33 1 (some ⟨eb, 0, none⟩) 2 2 [.pointer (some ⟨q0, 0, none⟩), .pointer (some ⟨q1, 0, none⟩)] :: sl true 26 1 ma 2 mc [.pointer (some ⟨m0, 0, none⟩), .pointer (some ⟨m1, 0, none⟩)] :: sl true 40 3 la ll lc (pktC (L.map (·.1)) lv) :: allR (byt 5 false) lv (L.map (·.1.b)) :: sl true 3 1 ta tl tc (L.map fun p => .int .i64 p.2) :: slr 1 a1 len1 (zs.map (Value.int .i64)) :: F) ?_ ?_
                · skip
                  rintro x153 -
                  refine WK.cond (by rfl) (fun hc153 => ?_) (fun hc153 => ?_)
                  · skip
                    refine WK.seq ?_
                    refine WK.region ?_
                    obtain hk | hk : nn % 2 = 0 ∨ nn % 2 = 1 := by omega
                    · skip
                      refine WL.yld (wanted_plain (by rfl)) (yld_move (by rfl)) (by rfl) (by decide) ?_
                      refine WL.yld (wanted_plain (by rfl)) (yld_move (by rfl)) (by rfl) (by decide) ?_
                      refine WL.yld (wanted_plain (by rfl)) (yld_indexAddrS (by rfl) (by rfl) (by exact Try.runUnderlying23) (by exact Try.sizeOf33) (by repeat (first | exact .here | apply Sel.there)) (0) (by first | rfl | omega) (by omega) (by omega) (by exact Nat.mul_one _)) (by rfl) (by decide) ?_
                      refine WL.yld (wanted_plain (by rfl)) (yld_loadS (by rfl) (by exact Try.isAgg33) (by repeat (first | exact .here | apply Sel.there)) (by first | rfl | assumption | (simp; done) | (simp [*]; done))) (by rfl) (by decide) ?_
                      refine WL.eff (wanted_plain (by rfl)) (eff_call (by exact Try.call15) (by repeat (first | exact Evs.nil | apply Evs.cons | rfl)) (by repeat (first | exact SelL.nil | exact SelL.self | apply SelL.cons | exact Sel.here | apply Sel.there | apply SelL.skip)) (out_specR q0 e0 (v0.okE (by omega)))) (by rfl) (by decide) ?_
                      rintro ⟨ad160, len160, cap160, vs160⟩ ⟨hl160, hv160⟩
                      obtain ⟨hs1, hs2, hs3⟩ := Rel.out v0
                      rw [hs1] at hl160 ⊢
                      rw [show (outM e0).2 = { e0 with owing := false } from rfl]
                      dsimp only at hl160 hv160 ⊢
                      try dsimp only
                      refine WL.yld (wanted_plain (by rfl)) (yld_assign (by rfl)) (by rfl) (by decide) ?_
                      refine WL.done ?_
                      refine WK.seq ?_
                      refine WK.region ?_
                      refine WL.yld (wanted_plain (by rfl)) (yld_move (by rfl)) (by rfl) (by decide) ?_
                      refine WL.yld (wanted_plain (by rfl)) (yld_move (by rfl)) (by rfl) (by decide) ?_
                      refine WL.yld (wanted_plain (by rfl)) (yld_indexAddrS (by rfl) (by rfl) (by exact Try.runUnderlying25) (by exact Try.sizeOf26) (by repeat (first | exact .here | apply Sel.there)) (0) (by first | rfl | omega) (by omega) (by omega) (by exact Nat.mul_one _)) (by rfl) (by decide) ?_
                      refine WL.yld (wanted_plain (by rfl)) (yld_loadS (by rfl) (by exact Try.isAgg26) (by repeat (first | exact .here | apply Sel.there)) (by first | rfl | assumption | (simp; done) | (simp [*]; done))) (by rfl) (by decide) ?_
                      refine WL.eff (wanted_plain (by rfl)) (eff_call (by exact Try.call16) (by repeat (first | exact Evs.nil | apply Evs.cons | rfl)) (by repeat (first | exact SelL.nil | exact SelL.self | apply SelL.cons | exact Sel.here | apply Sel.there | apply SelL.skip)) (refOut_spec m0 r0 x0 v0.a1 v0.a2 v0.win2 (by omega) (by omega))) (by rfl) (by decide) ?_
                      rintro ⟨ad165, len165, cap165, vs165⟩ ⟨hl165, hv165⟩
                      have hpl := outR_len (r := r0) (a := x0) (by omega)
                      rw [show (outR r0 x0).2 = { r0 with owing := false } from rfl]
                      generalize (outR r0 x0).1 = ps at hl160 hl165 hs3 hpl ⊢
                      dsimp only at hl165 hv165 ⊢
                      subst hl160 hl165
                      try dsimp only
                      refine WL.yld (wanted_plain (by rfl)) (yld_assign (by rfl)) (by rfl) (by decide) ?_
                      refine WL.done ?_
                      refine WK.seq ?_
                      refine WK.seq ?_
                      refine WK.region ?_
                      refine WL.yld (wanted_plain (by rfl)) (yld_move (by rfl)) (by rfl) (by decide) ?_
                      refine WL.yld (wanted_plain (by rfl)) (yld_move (by rfl)) (by rfl) (by decide) ?_
                      refine WL.eff (wanted_plain (by rfl)) (eff_call (by exact Try.call17) (by repeat (first | exact Evs.nil | apply Evs.cons | rfl)) (by repeat (first | exact SelL.nil | exact SelL.self | apply SelL.cons | exact Sel.here | apply Sel.there | apply SelL.skip)) (same_spec true true ad160 ad165 ps.length cap160 cap165 ps vs160 vs165 rfl (by omega) (fun p hp => by have := hs3 p hp; omega))) (by rfl) (by decide) ?_
                      rintro _ -
                      try dsimp only
                      refine WL.yld (wanted_plain (by rfl)) (yld_not (by rfl)) (by rfl) (by decide) ?_
                      refine WL.done ?_
                      refine WK.cond (by rfl) (fun h => by cases h) (fun _ => ?_)
                      refine WK.skip ?_
                      refine WK.seq ?_
                      refine WK.region ?_
                      refine WL.yld (wanted_plain (by rfl)) (yld_assign (by rfl)) (by rfl) (by decide) ?_
                      refine WL.done ?_
                      refine WK.block ?_
                      refine WK.loop (ι := Nat × (Option Addr × Nat) × Option Addr × Nat) (fun r => r.1 ≤ ps.length) (fun r => [(1, .slice a1 len1 cap1), (5, .slice (some ⟨eb, 0, none⟩) 2 2), (6, .slice ma 2 mc), (10, .slice r.2.1.1 (ll + r.1) r.2.1.2), (11, .slice r.2.2.1 (tl + r.1) r.2.2.2), (12, .int .i64 (i : Int)), (14, .int .i64 ((nn % 2 : Nat) : Int)), (17, .slice ad165 ps.length cap165), (18, .int .i64 (r.1 : Int))]) (fun r => sl true 40 3 r.2.1.1 (ll + r.1) r.2.1.2 (pktC ((onWay L ps 1 r.1).map (·.1)) (lv ++ vs165.take r.1)) :: allR (byt 5 false) (lv ++ vs165.take r.1) ((onWay L ps 1 r.1).map (·.1.b)) :: sl true 3 1 r.2.2.1 (tl + r.1) r.2.2.2 ((onWay L ps 1 r.1).map fun p => .int .i64 p.2) :: sl true 40 3 ad165 ps.length cap165 (pktC ps vs165) :: allR (byt 5 false) vs165 (ps.map (·.b)) :: endR q0 { e0 with owing := false } :: endR q1 e1 :: refR m0 { r0 with owing := false } :: refR m1 r1 :: sl true 33 1 (some ⟨eb, 0, none⟩) 2 2 [.pointer (some ⟨q0, 0, none⟩), .pointer (some ⟨q1, 0, none⟩)] :: sl true 26 1 ma 2 mc [.pointer (some ⟨m0, 0, none⟩), .pointer (some ⟨m1, 0, none⟩)] :: slr 1 a1 len1 (zs.map (Value.int .i64)) :: F) (fun r => ps.length - r.1) ((0, (la, lc), ta, tc)) (Nat.zero_le _) (by repeat (first | exact KK.nil | refine KK.cons (by first | rfl | (simp; done)) ?_)) (by (try dsimp only); rw [onWay_zero, List.take_zero, List.append_nil]; exact (by repeat (first | exact SelL.nil | exact SelL.self | apply SelL.cons | exact Sel.here | apply Sel.there | apply SelL.skip))) ?_
                      rintro ⟨j, ⟨la2, lc2⟩, ta2, tc2⟩ hj N2 hN2
                      dsimp only at hj ⊢
                      refine WK.seq ?_
                      refine WK.seq ?_
                      refine WK.region ?_
                      refine WL.yld (wanted_plain (by rfl)) (yld_move (by rfl)) (by rfl) (by decide) ?_
                      refine WL.yld (wanted_plain (by rfl)) (yld_move (by rfl)) (by rfl) (by decide) ?_
                      refine WL.yld (wanted_plain (by rfl)) (yld_len (by rfl) (by exact Try.runUnderlying30)) (by rfl) (by decide) ?_
                      refine WL.yld (wanted_plain (by rfl)) (yld_lss (by rfl) (by rfl)) (by rfl) (by decide) ?_
                      refine WL.done ?_
                      refine WK.cond (by rfl) (fun hc173 => ?_) (fun hc173 => ?_)
                      · skip
                        have hc173 := of_decide_eq_true hc173
                        refine WK.skip ?_
                        refine WK.seq ?_
                        refine WK.block ?_
                        refine WK.seq ?_
                        obtain ⟨p7, hp7⟩ : ∃ p, ps[j]? = some p := ⟨_, List.getElem?_eq_getElem (by omega)⟩
                        refine WK.openS (fun w s => Sat.allByt (k := j) (bs := p7.b) (by rw [List.getElem?_map, hp7]; rfl) (s.sel1 (A := allR (byt 5 false) vs165 (ps.map (·.b))) (by repeat (first | exact .here | apply Sel.there)))) ?_
                        rintro ⟨ad7, len7, cap7⟩ ⟨hv7, hl7⟩
                        dsimp only at hv7 hl7
                        subst hl7
                        try dsimp only [List.cons_append, List.nil_append]
                        refine WK.region ?_
                        refine WL.yld (wanted_plain (by rfl)) (yld_move (by rfl)) (by rfl) (by decide) ?_
                        refine WL.yld (wanted_plain (by rfl)) (yld_move (by rfl)) (by rfl) (by decide) ?_
                        refine WL.yld (wanted_plain (by rfl)) (yld_move (by rfl)) (by rfl) (by decide) ?_
                        refine WL.yld (wanted_plain (by rfl)) (yld_indexAddrS (by rfl) (by rfl) (by exact Try.runUnderlying30) (by exact Try.sizeOf40) (by repeat (first | exact .here | apply Sel.there)) (j) (by first | rfl | omega) (by omega) (by omega) (by rfl)) (by rfl) (by decide) ?_
                        refine WL.yld (wanted_plain (by rfl)) (yld_loadSA (by rfl) (by exact Try.isAgg40) (by exact Try.sizeOf40) (by repeat (first | exact .here | apply Sel.there)) (by exact pktC_cells (j := j) hp7 hv7)) (by rfl) (by decide) ?_
                        refine WL.eff (wanted_plain (by rfl)) (eff_mkSlice1 (by rfl) (by rfl) (by exact Try.runUnderlying30) (by exact Try.sizeOf40) (by exact Try.zeroValue40) (by rfl) (by rfl) (by decide) (by rfl)) (by rfl) (by decide) ?_
                        rintro b181 -
                        try dsimp only
                        refine WL.eff (wanted_plain (by rfl)) (eff_append (by rfl) (by rfl) (by exact elem30) (by exact Try.underlying30) (by repeat (first | exact SelL.nil | exact SelL.self | apply SelL.cons | exact Sel.here | apply Sel.there | apply SelL.skip)) (by omega) (by omega)) (by rfl) (by decide) ?_
                        rintro ⟨ad182, cap182⟩ -
                        try dsimp only
                        refine WL.yld (wanted_plain (by rfl)) (yld_assign (by rfl)) (by rfl) (by decide) ?_
                        refine WL.done ?_
                        refine WK.region ?_
                        refine WL.yld (wanted_plain (by rfl)) (yld_move (by rfl)) (by rfl) (by decide) ?_
                        refine WL.yld (wanted_plain (by rfl)) (yld_move (by rfl)) (by rfl) (by decide) ?_
                        refine WL.yld (wanted_plain (by rfl)) (yld_sub (by rfl) (by rfl) (by first | exact w64 (by omega) (by omega) | rfl)) (by rfl) (by decide) ?_
                        refine WL.eff (wanted_plain (by rfl)) (eff_mkSlice1 (by rfl) (by rfl) (by exact Try.runUnderlying22) (by exact Try.sizeOf3) (by exact Try.zeroValue3) (by rfl) (by rfl) (by decide) (by rfl)) (by rfl) (by decide) ?_
                        rintro b186 -
                        try dsimp only
                        refine WL.eff (wanted_plain (by rfl)) (eff_append (by rfl) (by rfl) (by exact elem22) (by exact Try.underlying22) (by repeat (first | exact SelL.nil | exact SelL.self | apply SelL.cons | exact Sel.here | apply Sel.there | apply SelL.skip)) (by omega) (by omega)) (by rfl) (by decide) ?_
                        rintro ⟨ad187, cap187⟩ -
                        try dsimp only
                        refine WL.yld (wanted_plain (by rfl)) (yld_assign (by rfl)) (by rfl) (by decide) ?_
                        refine WL.done ?_
                        refine WK.endBlock ?_
                        refine WK.region ?_
                        refine WL.yld (wanted_plain (by rfl)) (yld_move (by rfl)) (by rfl) (by decide) ?_
                        refine WL.yld (wanted_plain (by rfl)) (yld_add (by rfl) (by rfl) (by first | exact w64 (by omega) (by omega) | rfl)) (by rfl) (by decide) ?_
                        refine WL.yld (wanted_plain (by rfl)) (yld_assign (by rfl)) (by rfl) (by decide) ?_
                        refine WL.done ?_
                        have hlp : (onWay L ps 1 j).length = L.length + j := onWay_len (by omega)
                        have hvl : (lv ++ vs165.take j).length = lv.length + j := by rw [List.length_append, List.length_take]; omega
                        have htk : lv ++ vs165.take (j + 1) = (lv ++ vs165.take j) ++ [.slice ad7 p7.b.length cap7] := by rw [List.take_add_one, hv7, List.append_assoc]; rfl
                        refine WK.sat (fun w s => Sat.allSnoc ((s.sel1 (A := sl false 5 1 ad7 p7.b.length cap7 (p7.b.map bv)) (by repeat (first | exact .here | apply Sel.there))).bytShut.sel (As := [allR (byt 5 false) (lv ++ vs165.take j) ((onWay L ps 1 j).map (·.1.b)), byt 5 false (.slice ad7 p7.b.length cap7) p7.b]) (by repeat (first | exact SelL.nil | exact SelL.self | apply SelL.cons | exact Sel.here | apply Sel.there | apply SelL.skip)))) ?_
                        rw [show (1 - ((nn % 2 : Nat) : Int)) = ((1 : Nat) : Int) from by rw [hk]; rfl]
                        apply WK.next hN2 (j + 1, (ad182, cap182), ad187, cap187) (by dsimp only; omega) (by dsimp only; omega) (by repeat (first | exact KK.nil | refine KK.cons (by first | rfl | (simp; done)) ?_))
                        dsimp only
                        rw [onWay_succ hp7, htk]
                        simp only [List.map_append, List.map_cons, List.map_nil]
                        rw [pktC_snoc _ _ _ _ (by rw [List.length_map, hlp, hvl]; omega)]
                        exact (by repeat (first | exact SelL.nil | exact SelL.self | apply SelL.cons | exact Sel.here | apply Sel.there | apply SelL.skip))
                      · skip
                        have hc173 := of_decide_eq_false hc173
                        refine WK.exit ?_
                        repeat (first | refine XQ.then_ ?_ | refine XQ.block (by rfl) ?_)
                        refine XQ.here ?_
                        refine WK.endBlock ?_
                        exact WK.goto JB4 ⟨{ e0 with owing := false }, e1, { r0 with owing := false }, r1, (onWay L ps 1 j), la2, (ll + j), lc2, (lv ++ vs165.take j), ta2, (tl + j), tc2⟩ ⟨⟨_, hs2⟩, ⟨x1, v1.mono⟩, (fun p hp => (onWay_mem hp).elim (hlink p) (fun h => ⟨by rw [h.2]; simp, hs3 _ h.1⟩)), (by dsimp only; rw [onWay_len (by omega)]; omega)⟩ (by repeat (first | exact KK.nil | refine KK.cons (by first | rfl | (simp; done)) ?_)) (by (try dsimp only [roL, mL, refL, List.cons_append, List.nil_append]); exact (by repeat (first | exact SelL.nil | exact SelL.self | apply SelL.cons | exact Sel.here | apply Sel.there | apply SelL.skip)))
                    · skip
                      refine WL.yld (wanted_plain (by rfl)) (yld_move (by rfl)) (by rfl) (by decide) ?_
                      refine WL.yld (wanted_plain (by rfl)) (yld_move (by rfl)) (by rfl) (by decide) ?_
                      refine WL.yld (wanted_plain (by rfl)) (yld_indexAddrS (by rfl) (by rfl) (by exact Try.runUnderlying23) (by exact Try.sizeOf33) (by repeat (first | exact .here | apply Sel.there)) (1) (by first | rfl | omega) (by omega) (by omega) (by exact Nat.mul_one _)) (by rfl) (by decide) ?_
                      refine WL.yld (wanted_plain (by rfl)) (yld_loadS (by rfl) (by exact Try.isAgg33) (by repeat (first | exact .here | apply Sel.there)) (by first | rfl | assumption | (simp; done) | (simp [*]; done))) (by rfl) (by decide) ?_
                      refine WL.eff (wanted_plain (by rfl)) (eff_call (by exact Try.call15) (by repeat (first | exact Evs.nil | apply Evs.cons | rfl)) (by repeat (first | exact SelL.nil | exact SelL.self | apply SelL.cons | exact Sel.here | apply Sel.there | apply SelL.skip)) (out_specR q1 e1 (v1.okE (by omega)))) (by rfl) (by decide) ?_
                      rintro ⟨ad160, len160, cap160, vs160⟩ ⟨hl160, hv160⟩
                      obtain ⟨hs1, hs2, hs3⟩ := Rel.out v1
                      rw [hs1] at hl160 ⊢
                      rw [show (outM e1).2 = { e1 with owing := false } from rfl]
                      dsimp only at hl160 hv160 ⊢
                      try dsimp only
                      refine WL.yld (wanted_plain (by rfl)) (yld_assign (by rfl)) (by rfl) (by decide) ?_
                      refine WL.done ?_
                      refine WK.seq ?_
                      refine WK.region ?_
                      refine WL.yld (wanted_plain (by rfl)) (yld_move (by rfl)) (by rfl) (by decide) ?_
                      refine WL.yld (wanted_plain (by rfl)) (yld_move (by rfl)) (by rfl) (by decide) ?_
                      refine WL.yld (wanted_plain (by rfl)) (yld_indexAddrS (by rfl) (by rfl) (by exact Try.runUnderlying25) (by exact Try.sizeOf26) (by repeat (first | exact .here | apply Sel.there)) (1) (by first | rfl | omega) (by omega) (by omega) (by exact Nat.mul_one _)) (by rfl) (by decide) ?_
                      refine WL.yld (wanted_plain (by rfl)) (yld_loadS (by rfl) (by exact Try.isAgg26) (by repeat (first | exact .here | apply Sel.there)) (by first | rfl | assumption | (simp; done) | (simp [*]; done))) (by rfl) (by decide) ?_
                      refine WL.eff (wanted_plain (by rfl)) (eff_call (by exact Try.call16) (by repeat (first | exact Evs.nil | apply Evs.cons | rfl)) (by repeat (first | exact SelL.nil | exact SelL.self | apply SelL.cons | exact Sel.here | apply Sel.there | apply SelL.skip)) (refOut_spec m1 r1 x1 v1.a1 v1.a2 v1.win2 (by omega) (by omega))) (by rfl) (by decide) ?_
                      rintro ⟨ad165, len165, cap165, vs165⟩ ⟨hl165, hv165⟩
                      have hpl := outR_len (r := r1) (a := x1) (by omega)
                      rw [show (outR r1 x1).2 = { r1 with owing := false } from rfl]
                      generalize (outR r1 x1).1 = ps at hl160 hl165 hs3 hpl ⊢
                      dsimp only at hl165 hv165 ⊢
                      subst hl160 hl165
                      try dsimp only
                      refine WL.yld (wanted_plain (by rfl)) (yld_assign (by rfl)) (by rfl) (by decide) ?_
                      refine WL.done ?_
                      refine WK.seq ?_
                      refine WK.seq ?_
                      refine WK.region ?_
                      refine WL.yld (wanted_plain (by rfl)) (yld_move (by rfl)) (by rfl) (by decide) ?_
                      refine WL.yld (wanted_plain (by rfl)) (yld_move (by rfl)) (by rfl) (by decide) ?_
                      refine WL.eff (wanted_plain (by rfl)) (eff_call (by exact Try.call17) (by repeat (first | exact Evs.nil | apply Evs.cons | rfl)) (by repeat (first | exact SelL.nil | exact SelL.self | apply SelL.cons | exact Sel.here | apply Sel.there | apply SelL.skip)) (same_spec true true ad160 ad165 ps.length cap160 cap165 ps vs160 vs165 rfl (by omega) (fun p hp => by have := hs3 p hp; omega))) (by rfl) (by decide) ?_
                      rintro _ -
                      try dsimp only
                      refine WL.yld (wanted_plain (by rfl)) (yld_not (by rfl)) (by rfl) (by decide) ?_
                      refine WL.done ?_
                      refine WK.cond (by rfl) (fun h => by cases h) (fun _ => ?_)
                      refine WK.skip ?_
                      refine WK.seq ?_
                      refine WK.region ?_
                      refine WL.yld (wanted_plain (by rfl)) (yld_assign (by rfl)) (by rfl) (by decide) ?_
                      refine WL.done ?_
                      refine WK.block ?_
                      refine WK.loop (ι := Nat × (Option Addr × Nat) × Option Addr × Nat) (fun r => r.1 ≤ ps.length) (fun r => [(1, .slice a1 len1 cap1), (5, .slice (some ⟨eb, 0, none⟩) 2 2), (6, .slice ma 2 mc), (10, .slice r.2.1.1 (ll + r.1) r.2.1.2), (11, .slice r.2.2.1 (tl + r.1) r.2.2.2), (12, .int .i64 (i : Int)), (14, .int .i64 ((nn % 2 : Nat) : Int)), (17, .slice ad165 ps.length cap165), (18, .int .i64 (r.1 : Int))]) (fun r => sl true 40 3 r.2.1.1 (ll + r.1) r.2.1.2 (pktC ((onWay L ps 0 r.1).map (·.1)) (lv ++ vs165.take r.1)) :: allR (byt 5 false) (lv ++ vs165.take r.1) ((onWay L ps 0 r.1).map (·.1.b)) :: sl true 3 1 r.2.2.1 (tl + r.1) r.2.2.2 ((onWay L ps 0 r.1).map fun p => .int .i64 p.2) :: sl true 40 3 ad165 ps.length cap165 (pktC ps vs165) :: allR (byt 5 false) vs165 (ps.map (·.b)) :: endR q0 e0 :: endR q1 { e1 with owing := false } :: refR m0 r0 :: refR m1 { r1 with owing := false } :: sl true 33 1 (some ⟨eb, 0, none⟩) 2 2 [.pointer (some ⟨q0, 0, none⟩), .pointer (some ⟨q1, 0, none⟩)] :: sl true 26 1 ma 2 mc [.pointer (some ⟨m0, 0, none⟩), .pointer (some ⟨m1, 0, none⟩)] :: slr 1 a1 len1 (zs.map (Value.int .i64)) :: F) (fun r => ps.length - r.1) ((0, (la, lc), ta, tc)) (Nat.zero_le _) (by repeat (first | exact KK.nil | refine KK.cons (by first | rfl | (simp; done)) ?_)) (by (try dsimp only); rw [onWay_zero, List.take_zero, List.append_nil]; exact (by repeat (first | exact SelL.nil | exact SelL.self | apply SelL.cons | exact Sel.here | apply Sel.there | apply SelL.skip))) ?_
                      rintro ⟨j, ⟨la2, lc2⟩, ta2, tc2⟩ hj N2 hN2
                      dsimp only at hj ⊢
                      refine WK.seq ?_
                      refine WK.seq ?_
                      refine WK.region ?_
                      refine WL.yld (wanted_plain (by rfl)) (yld_move (by rfl)) (by rfl) (by decide) ?_
                      refine WL.yld (wanted_plain (by rfl)) (yld_move (by rfl)) (by rfl) (by decide) ?_
                      refine WL.yld (wanted_plain (by rfl)) (yld_len (by rfl) (by exact Try.runUnderlying30)) (by rfl) (by decide) ?_
                      refine WL.yld (wanted_plain (by rfl)) (yld_lss (by rfl) (by rfl)) (by rfl) (by decide) ?_
                      refine WL.done ?_
                      refine WK.cond (by rfl) (fun hc173 => ?_) (fun hc173 => ?_)
                      · skip
                        have hc173 := of_decide_eq_true hc173
                        refine WK.skip ?_
                        refine WK.seq ?_
                        refine WK.block ?_
                        refine WK.seq ?_
                        obtain ⟨p7, hp7⟩ : ∃ p, ps[j]? = some p := ⟨_, List.getElem?_eq_getElem (by omega)⟩
                        refine WK.openS (fun w s => Sat.allByt (k := j) (bs := p7.b) (by rw [List.getElem?_map, hp7]; rfl) (s.sel1 (A := allR (byt 5 false) vs165 (ps.map (·.b))) (by repeat (first | exact .here | apply Sel.there)))) ?_
                        rintro ⟨ad7, len7, cap7⟩ ⟨hv7, hl7⟩
                        dsimp only at hv7 hl7
                        subst hl7
                        try dsimp only [List.cons_append, List.nil_append]
                        refine WK.region ?_
                        refine WL.yld (wanted_plain (by rfl)) (yld_move (by rfl)) (by rfl) (by decide) ?_
                        refine WL.yld (wanted_plain (by rfl)) (yld_move (by rfl)) (by rfl) (by decide) ?_
                        refine WL.yld (wanted_plain (by rfl)) (yld_move (by rfl)) (by rfl) (by decide) ?_
                        refine WL.yld (wanted_plain (by rfl)) (yld_indexAddrS (by rfl) (by rfl) (by exact Try.runUnderlying30) (by exact Try.sizeOf40) (by repeat (first | exact .here | apply Sel.there)) (j) (by first | rfl | omega) (by omega) (by omega) (by rfl)) (by rfl) (by decide) ?_
                        refine WL.yld (wanted_plain (by rfl)) (yld_loadSA (by rfl) (by exact Try.isAgg40) (by exact Try.sizeOf40) (by repeat (first | exact .here | apply Sel.there)) (by exact pktC_cells (j := j) hp7 hv7)) (by rfl) (by decide) ?_
                        refine WL.eff (wanted_plain (by rfl)) (eff_mkSlice1 (by rfl) (by rfl) (by exact Try.runUnderlying30) (by exact Try.sizeOf40) (by exact Try.zeroValue40) (by rfl) (by rfl) (by decide) (by rfl)) (by rfl) (by decide) ?_
                        rintro b181 -
                        try dsimp only
                        refine WL.eff (wanted_plain (by rfl)) (eff_append (by rfl) (by rfl) (by exact elem30) (by exact Try.underlying30) (by repeat (first | exact SelL.nil | exact SelL.self | apply SelL.cons | exact Sel.here | apply Sel.there | apply SelL.skip)) (by omega) (by omega)) (by rfl) (by decide) ?_
                        rintro ⟨ad182, cap182⟩ -
                        try dsimp only
                        refine WL.yld (wanted_plain (by rfl)) (yld_assign (by rfl)) (by rfl) (by decide) ?_
                        refine WL.done ?_
                        refine WK.region ?_
                        refine WL.yld (wanted_plain (by rfl)) (yld_move (by rfl)) (by rfl) (by decide) ?_
                        refine WL.yld (wanted_plain (by rfl)) (yld_move (by rfl)) (by rfl) (by decide) ?_
                        refine WL.yld (wanted_plain (by rfl)) (yld_sub (by rfl) (by rfl) (by first | exact w64 (by omega) (by omega) | rfl)) (by rfl) (by decide) ?_
                        refine WL.eff (wanted_plain (by rfl)) (eff_mkSlice1 (by rfl) (by rfl) (by exact Try.runUnderlying22) (by exact Try.sizeOf3) (by exact Try.zeroValue3) (by rfl) (by rfl) (by decide) (by rfl)) (by rfl) (by decide) ?_
                        rintro b186 -
                        try dsimp only
                        refine WL.eff (wanted_plain (by rfl)) (eff_append (by rfl) (by rfl) (by exact elem22) (by exact Try.underlying22) (by repeat (first | exact SelL.nil | exact SelL.self | apply SelL.cons | exact Sel.here | apply Sel.there | apply SelL.skip)) (by omega) (by omega)) (by rfl) (by decide) ?_
                        rintro ⟨ad187, cap187⟩ -
                        try dsimp only
                        refine WL.yld (wanted_plain (by rfl)) (yld_assign (by rfl)) (by rfl) (by decide) ?_
                        refine WL.done ?_
                        refine WK.endBlock ?_
                        refine WK.region ?_
                        refine WL.yld (wanted_plain (by rfl)) (yld_move (by rfl)) (by rfl) (by decide) ?_
                        refine WL.yld (wanted_plain (by rfl)) (yld_add (by rfl) (by rfl) (by first | exact w64 (by omega) (by omega) | rfl)) (by rfl) (by decide) ?_
                        refine WL.yld (wanted_plain (by rfl)) (yld_assign (by rfl)) (by rfl) (by decide) ?_
                        refine WL.done ?_
                        have hlp : (onWay L ps 0 j).length = L.length + j := onWay_len (by omega)
                        have hvl : (lv ++ vs165.take j).length = lv.length + j := by rw [List.length_append, List.length_take]; omega
                        have htk : lv ++ vs165.take (j + 1) = (lv ++ vs165.take j) ++ [.slice ad7 p7.b.length cap7] := by rw [List.take_add_one, hv7, List.append_assoc]; rfl
                        refine WK.sat (fun w s => Sat.allSnoc ((s.sel1 (A := sl false 5 1 ad7 p7.b.length cap7 (p7.b.map bv)) (by repeat (first | exact .here | apply Sel.there))).bytShut.sel (As := [allR (byt 5 false) (lv ++ vs165.take j) ((onWay L ps 0 j).map (·.1.b)), byt 5 false (.slice ad7 p7.b.length cap7) p7.b]) (by repeat (first | exact SelL.nil | exact SelL.self | apply SelL.cons | exact Sel.here | apply Sel.there | apply SelL.skip)))) ?_
                        rw [show (1 - ((nn % 2 : Nat) : Int)) = ((0 : Nat) : Int) from by rw [hk]; rfl]
                        apply WK.next hN2 (j + 1, (ad182, cap182), ad187, cap187) (by dsimp only; omega) (by dsimp only; omega) (by repeat (first | exact KK.nil | refine KK.cons (by first | rfl | (simp; done)) ?_))
                        dsimp only
                        rw [onWay_succ hp7, htk]
                        simp only [List.map_append, List.map_cons, List.map_nil]
                        rw [pktC_snoc _ _ _ _ (by rw [List.length_map, hlp, hvl]; omega)]
                        exact (by repeat (first | exact SelL.nil | exact SelL.self | apply SelL.cons | exact Sel.here | apply Sel.there | apply SelL.skip))
                      · skip
                        have hc173 := of_decide_eq_false hc173
                        refine WK.exit ?_
                        repeat (first | refine XQ.then_ ?_ | refine XQ.block (by rfl) ?_)
                        refine XQ.here ?_
                        refine WK.endBlock ?_
                        exact WK.goto JB4 ⟨e0, { e1 with owing := false }, r0, { r1 with owing := false }, (onWay L ps 0 j), la2, (ll + j), lc2, (lv ++ vs165.take j), ta2, (tl + j), tc2⟩ ⟨⟨x0, v0.mono⟩, ⟨_, hs2⟩, (fun p hp => (onWay_mem hp).elim (hlink p) (fun h => ⟨by rw [h.2]; simp, hs3 _ h.1⟩)), (by dsimp only; rw [onWay_len (by omega)]; omega)⟩ (by repeat (first | exact KK.nil | refine KK.cons (by first | rfl | (simp; done)) ?_)) (by (try dsimp only [roL, mL, refL, List.cons_append, List.nil_append]); exact (by repeat (first | exact SelL.nil | exact SelL.self | apply SelL.cons | exact Sel.here | apply Sel.there | apply SelL.skip)))
                  · skip
                    refine WK.seq ?_
                    refine WK.seq ?_
                    refine WK.region ?_
                    refine WL.yld (wanted_plain (by rfl)) (yld_move (by rfl)) (by rfl) (by decide) ?_
                    refine WL.yld (wanted_plain (by rfl)) (yld_len (by rfl) (by exact Try.runUnderlying30)) (by rfl) (by decide) ?_
                    refine WL.yld (wanted_plain (by rfl)) (yld_eql (by rfl) (by rfl)) (by rfl) (by decide) ?_
                    refine WL.done ?_
                    refine WK.cond (by rfl) (fun hc74 => ?_) (fun hc74 => ?_)
                    · skip
                      have hc74 := of_decide_eq_true hc74
                      refine WK.exit ?_
                      repeat (first | refine XQ.then_ ?_ | refine XQ.block (by rfl) ?_)
                      refine XQ.here ?_
                      refine WK.region ?_
                      refine WL.yld (wanted_plain (by rfl)) (yld_move (by rfl)) (by rfl) (by decide) ?_
                      refine WL.yld (wanted_plain (by rfl)) (yld_add (by rfl) (by rfl) (by first | exact w64 (by omega) (by omega) | rfl)) (by rfl) (by decide) ?_
                      refine WL.yld (wanted_plain (by rfl)) (yld_assign (by rfl)) (by rfl) (by decide) ?_
                      refine WL.done ?_
                      exact WK.next hN (i + 1, ⟨e0, e1, r0, r1, L, la, ll, lc, lv, ta, tl, tc⟩) ⟨by dsimp only; omega, ⟨⟨x0, v0.mono⟩, ⟨x1, v1.mono⟩, hlink, by dsimp only; omega⟩⟩ (by dsimp only; omega) (by repeat (first | exact KK.nil | refine KK.cons (by first | rfl | (simp; done)) ?_)) (by (try dsimp only [roL, mL, refL, List.cons_append, List.nil_append]); exact (by repeat (first | exact SelL.nil | exact SelL.self | apply SelL.cons | exact Sel.here | apply Sel.there | apply SelL.skip)))
                    · skip
                      have hc74 := of_decide_eq_false hc74
                      refine WK.skip ?_
                      refine WK.seq ?_
                      have hjj := Nat.mod_lt (nn / 2) (show 0 < min ll 20 by omega)
                      refine WK.region ?_
                      refine WL.yld (wanted_plain (by rfl)) (yld_move (by rfl)) (by rfl) (by decide) ?_
                      refine WL.yld (wanted_plain (by rfl)) (yld_len (by rfl) (by exact Try.runUnderlying30)) (by rfl) (by decide) ?_
                      refine WL.yld (wanted_plain (by rfl)) (yld_sub (by rfl) (by rfl) (by first | exact w64 (by omega) (by omega) | rfl)) (by rfl) (by decide) ?_
                      refine WL.yld (wanted_plain (by rfl)) (yld_move (by rfl)) (by rfl) (by decide) ?_
                      refine WL.yld (wanted_plain (by rfl)) (yld_quo (by rfl) (by rfl) (by omega) (by exact (IntWalk.i64_quo' (nn : Int) 2 ⟨by omega, by omega, by omega⟩).trans (tdivNat nn 2))) (by rfl) (by decide) ?_
                      refine WL.yld (wanted_plain (by rfl)) (yld_move (by rfl)) (by rfl) (by decide) ?_
                      refine WL.yld (wanted_plain (by rfl)) (yld_len (by rfl) (by exact Try.runUnderlying30)) (by rfl) (by decide) ?_
                      refine WL.yld (wanted_plain (by rfl)) (yld_min (by rfl) (by rfl)) (by rfl) (by decide) ?_
                      refine WL.yld (wanted_plain (by rfl)) (yld_rem (by rfl) (by rfl) (by omega) (show ((nn / 2 : Nat) : Int).tmod (min (ll : Int) 20) = ((nn / 2 % min ll 20 : Nat) : Int) from by rw [show (min (ll : Int) 20) = ((min ll 20 : Nat) : Int) by omega]; exact tmodNat _ _)) (by rfl) (by decide) ?_
                      refine WL.yld (wanted_plain (by rfl)) (yld_sub (by rfl) (by rfl) (show IntKind.i64.wrap ((ll : Int) - 1 - ((nn / 2 % min ll 20 : Nat) : Int)) = ((ll - 1 - nn / 2 % min ll 20 : Nat) : Int) from by rw [show ((ll : Int) - 1 - ((nn / 2 % min ll 20 : Nat) : Int)) = ((ll - 1 - nn / 2 % min ll 20 : Nat) : Int) by omega]; exact w64 (by omega) (by omega))) (by rfl) (by decide) ?_
                      refine WL.yld (wanted_plain (by rfl)) (yld_assign (by rfl)) (by rfl) (by decide) ?_
                      refine WL.done ?_
                      have hj2 : ll - 1 - nn / 2 % min ll 20 < ll := by omega
                      generalize ll - 1 - nn / 2 % min ll 20 = jj at hj2 ⊢
                      obtain ⟨⟨p, t⟩, hp⟩ : ∃ z, L[jj]? = some z := ⟨_, List.getElem?_eq_getElem (by omega)⟩
                      obtain ⟨ht, hpb⟩ := hlink _ (List.mem_of_getElem? hp)
                      dsimp only at ht hpb
                      refine WK.seq ?_
                      refine WK.region ?_
                      rcases ht with ht | ht
                      · skip
                        subst ht
                        refine WL.yld (wanted_plain (by rfl)) (yld_move (by rfl)) (by rfl) (by decide) ?_
                        refine WL.yld (wanted_plain (by rfl)) (yld_move (by rfl)) (by rfl) (by decide) ?_
                        refine WL.yld (wanted_plain (by rfl)) (yld_indexAddrS (by rfl) (by rfl) (by exact Try.runUnderlying30) (by exact Try.sizeOf40) (by repeat (first | exact .here | apply Sel.there)) (jj) (by first | rfl | omega) (by omega) (by omega) (by rfl)) (by rfl) (by decide) ?_
                        refine WL.openS (fun w s => Sat.allByt (k := jj) (bs := p.b) (by rw [List.getElem?_map, hp]; rfl) (s.sel1 (A := allR (byt 5 false) lv (L.map (·.1.b))) (by repeat (first | exact .here | apply Sel.there)))) ?_
                        rintro ⟨ad6, len6, cap6⟩ ⟨hv6, hl6⟩
                        dsimp only at hv6 hl6
                        subst hl6
                        try dsimp only [List.cons_append, List.nil_append]
                        refine WL.yld (wanted_plain (by rfl)) (yld_loadSA (by rfl) (by exact Try.isAgg40) (by exact Try.sizeOf40) (by repeat (first | exact .here | apply Sel.there)) (by exact pktC_cells (j := jj) (by rw [List.getElem?_map, hp]; rfl) hv6)) (by rfl) (by decide) ?_
                        refine WL.eff (wanted_plain (by rfl)) (eff_alloc (by exact Try.zeroValue40) (by rfl)) (by rfl) (by decide) ?_
                        rintro b20 -
                        try dsimp only
                        refine WL.eff0 (wanted_plain (by rfl)) (eff_store (by rfl) (by rfl) (by exact Try.sizeOf40) (by rfl) (by rfl) (by rfl) (by repeat (first | exact .here | apply Sel.there)) (by repeat (first | exact SetAts.nil | apply SetAts.cons | exact SetAt.here | apply SetAt.there))) (by rfl) ?_
                        rintro _ -
                        try dsimp only
                        refine WL.done ?_
                        refine WK.seq ?_
                        refine WK.seq ?_
                        refine WK.region ?_
                        refine WL.yld (wanted_plain (by rfl)) (yld_move (by rfl)) (by rfl) (by decide) ?_
                        refine WL.yld (wanted_plain (by rfl)) (yld_rem (by rfl) (by rfl) (by omega) (by exact tmodNat nn 41)) (by rfl) (by decide) ?_
                        refine WL.yld (wanted_plain (by rfl)) (yld_eql (by rfl) (by rfl)) (by rfl) (by decide) ?_
                        refine WL.done ?_
                        refine WK.cut (ι := Pkt × Option Addr × Nat) (fun x => x.1.b.length ≤ 65536) (fun x => [(1, .slice a1 len1 cap1), (5, .slice (some ⟨eb, 0, none⟩) 2 2), (6, .slice ma 2 mc), (10, .slice la ll lc), (11, .slice ta tl tc), (12, .int .i64 (i : Int)), (13, .int .i64 (nn : Int)), (19, .int .i64 (jj : Int)), (20, .pointer (some ⟨b20, 0, none⟩))]) (fun x => row true b20 40 [.int .i64 x.1.seq, .int .i64 x.1.ack, .slice x.2.1 x.1.b.length x.2.2] :: sl false 5 1 x.2.1 x.1.b.length x.2.2 (x.1.b.map bv) :: endR q0 e0 :: endR q1 e1 :: refR m0 r0 :: refR m1 r1 :: sl true 33 1 (some ⟨eb, 0, none⟩) 2 2 [.pointer (some ⟨q0, 0, none⟩), .pointer (some ⟨q1, 0, none⟩)] :: sl true 26 1 ma 2 mc [.pointer (some ⟨m0, 0, none⟩), .pointer (some ⟨m1, 0, none⟩)] :: sl true 40 3 la ll lc (pktC (L.map (·.1)) lv) :: allR (byt 5 false) lv (L.map (·.1.b)) :: sl true 3 1 ta tl tc (L.map fun p => .int .i64 p.2) :: slr 1 a1 len1 (zs.map (Value.int .i64)) :: F) ?_ ?_
                        · skip
                          rintro ⟨p, ad6, cap6⟩ hpb
                          dsimp only at hpb ⊢
                          refine WK.seq ?_
                          refine WK.seq ?_
                          refine WK.region ?_
                          refine WL.yld (wanted_plain (by rfl)) (yld_move (by rfl)) (by rfl) (by decide) ?_
                          refine WL.yld (wanted_plain (by rfl)) (yld_rem (by rfl) (by rfl) (by omega) (by exact tmodNat nn 43)) (by rfl) (by decide) ?_
                          refine WL.yld (wanted_plain (by rfl)) (yld_eql (by rfl) (by rfl)) (by rfl) (by decide) ?_
                          refine WL.done ?_
                          refine WK.cut (ι := Pkt × Option Addr × Nat) (fun x => x.1.b.length ≤ 65536) (fun x => [(1, .slice a1 len1 cap1), (5, .slice (some ⟨eb, 0, none⟩) 2 2), (6, .slice ma 2 mc), (10, .slice la ll lc), (11, .slice ta tl tc), (12, .int .i64 (i : Int)), (13, .int .i64 (nn : Int)), (19, .int .i64 (jj : Int)), (20, .pointer (some ⟨b20, 0, none⟩))]) (fun x => row true b20 40 [.int .i64 x.1.seq, .int .i64 x.1.ack, .slice x.2.1 x.1.b.length x.2.2] :: sl false 5 1 x.2.1 x.1.b.length x.2.2 (x.1.b.map bv) :: endR q0 e0 :: endR q1 e1 :: refR m0 r0 :: refR m1 r1 :: sl true 33 1 (some ⟨eb, 0, none⟩) 2 2 [.pointer (some ⟨q0, 0, none⟩), .pointer (some ⟨q1, 0, none⟩)] :: sl true 26 1 ma 2 mc [.pointer (some ⟨m0, 0, none⟩), .pointer (some ⟨m1, 0, none⟩)] :: sl true 40 3 la ll lc (pktC (L.map (·.1)) lv) :: allR (byt 5 false) lv (L.map (·.1.b)) :: sl true 3 1 ta tl tc (L.map fun p => .int .i64 p.2) :: slr 1 a1 len1 (zs.map (Value.int .i64)) :: F) ?_ ?_
                          · skip
                            rintro ⟨p, ad6, cap6⟩ hpb
                            dsimp only at hpb ⊢
                            refine WK.seq ?_
                            refine WK.seq ?_
                            refine WK.region ?_
                            refine WL.yld (wanted_plain (by rfl)) (yld_move (by rfl)) (by rfl) (by decide) ?_
                            refine WL.yld (wanted_plain (by rfl)) (yld_rem (by rfl) (by rfl) (by omega) (by exact tmodNat nn 47)) (by rfl) (by decide) ?_
                            refine WL.yld (wanted_plain (by rfl)) (yld_eql (by rfl) (by rfl)) (by rfl) (by decide) ?_
                            refine WL.done ?_
                            refine WK.cut (ι := Pkt × Option Addr × Nat) (fun x => x.1.b.length ≤ 65536) (fun x => [(1, .slice a1 len1 cap1), (5, .slice (some ⟨eb, 0, none⟩) 2 2), (6, .slice ma 2 mc), (10, .slice la ll lc), (11, .slice ta tl tc), (12, .int .i64 (i : Int)), (13, .int .i64 (nn : Int)), (19, .int .i64 (jj : Int)), (20, .pointer (some ⟨b20, 0, none⟩))]) (fun x => row true b20 40 [.int .i64 x.1.seq, .int .i64 x.1.ack, .slice x.2.1 x.1.b.length x.2.2] :: sl false 5 1 x.2.1 x.1.b.length x.2.2 (x.1.b.map bv) :: endR q0 e0 :: endR q1 e1 :: refR m0 r0 :: refR m1 r1 :: sl true 33 1 (some ⟨eb, 0, none⟩) 2 2 [.pointer (some ⟨q0, 0, none⟩), .pointer (some ⟨q1, 0, none⟩)] :: sl true 26 1 ma 2 mc [.pointer (some ⟨m0, 0, none⟩), .pointer (some ⟨m1, 0, none⟩)] :: sl true 40 3 la ll lc (pktC (L.map (·.1)) lv) :: allR (byt 5 false) lv (L.map (·.1.b)) :: sl true 3 1 ta tl tc (L.map fun p => .int .i64 p.2) :: slr 1 a1 len1 (zs.map (Value.int .i64)) :: F) ?_ ?_
                            · skip
                              rintro ⟨p, ad6, cap6⟩ hpb
                              dsimp only at hpb ⊢
                              refine WK.seq ?_
                              refine WK.drawn (by kernel_rfl) [(0, 0), (1, 0), (2, 0), (3, 0), (4, 0), (5, 0), (6, 0), (7, 0), (10, 0), (11, 0), (12, 0), (13, 0), (14, 0), (15, 0), (16, 0), (17, 0), (8, 1), (9, 1), (18, 1), (19, 1), (20, 0)] [sl true 33 1 (some ⟨eb, 0, none⟩) 2 2 [.pointer (some ⟨q0, 0, none⟩), .pointer (some ⟨q1, 0, none⟩)], sl true 26 1 ma 2 mc [.pointer (some ⟨m0, 0, none⟩), .pointer (some ⟨m1, 0, none⟩)], sl true 3 1 ta tl tc (L.map fun p => .int .i64 p.2), row true b20 40 [.int .i64 p.seq, .int .i64 p.ack, .slice ad6 p.b.length cap6]] (by kernel_rfl) (by kernel_rfl) (by kernel_rfl) ?_
                              refine WO.yld (by rfl) (wanted_plain (by rfl)) (yld_move (by rfl)) (by rfl) (by decide) (by repeat (first | exact SelL.nil | exact SelL.self | apply SelL.cons | exact Sel.here | apply Sel.there | apply SelL.skip)) ?_
                              refine WO.yld (by rfl) (wanted_plain (by rfl)) (yld_move (by rfl)) (by rfl) (by decide) (by repeat (first | exact SelL.nil | exact SelL.self | apply SelL.cons | exact Sel.here | apply Sel.there | apply SelL.skip)) ?_
                              refine WO.yld (by rfl) (wanted_plain (by rfl)) (yld_move (by rfl)) (by rfl) (by decide) (by repeat (first | exact SelL.nil | exact SelL.self | apply SelL.cons | exact Sel.here | apply Sel.there | apply SelL.skip)) ?_
                              refine WO.yld (by rfl) (wanted_plain (by rfl)) (yld_indexAddrS (by rfl) (by rfl) (by exact Try.runUnderlying22) (by exact Try.sizeOf3) (by repeat (first | exact .here | apply Sel.there)) (jj) (by first | rfl | omega) (by omega) (by omega) (by exact Nat.mul_one _)) (by rfl) (by decide) (by repeat (first | exact SelL.nil | exact SelL.self | apply SelL.cons | exact Sel.here | apply Sel.there | apply SelL.skip)) ?_
                              refine WO.yld (by rfl) (wanted_plain (by rfl)) (yld_loadS (by rfl) (by exact Try.isAgg3) (by repeat (first | exact .here | apply Sel.there)) (by rw [List.getElem?_map, hp]; rfl)) (by rfl) (by decide) (by repeat (first | exact SelL.nil | exact SelL.self | apply SelL.cons | exact Sel.here | apply Sel.there | apply SelL.skip)) ?_
                              refine WO.yld (by rfl) (wanted_plain (by rfl)) (yld_indexAddrS (by rfl) (by rfl) (by exact Try.runUnderlying23) (by exact Try.sizeOf33) (by repeat (first | exact .here | apply Sel.there)) (1) (by first | rfl | omega) (by omega) (by omega) (by exact Nat.mul_one _)) (by rfl) (by decide) (by repeat (first | exact SelL.nil | exact SelL.self | apply SelL.cons | exact Sel.here | apply Sel.there | apply SelL.skip)) ?_
                              refine WO.yld (by rfl) (wanted_plain (by rfl)) (yld_loadS (by rfl) (by exact Try.isAgg33) (by repeat (first | exact .here | apply Sel.there)) (by first | rfl | assumption | (simp; done) | (simp [*]; done))) (by rfl) (by decide) (by repeat (first | exact SelL.nil | exact SelL.self | apply SelL.cons | exact Sel.here | apply Sel.there | apply SelL.skip)) ?_
                              refine WO.yld (by rfl) (wanted_plain (by rfl)) (yld_loadA (by rfl) (by exact Try.isAgg40) (by exact Try.sizeOf40) (by repeat (first | exact .here | apply Sel.there)) (by repeat (first | exact Cells.nil | apply Cells.cons | rfl))) (by rfl) (by decide) (by repeat (first | exact SelL.nil | exact SelL.self | apply SelL.cons | exact Sel.here | apply Sel.there | apply SelL.skip)) ?_
                              refine WO.yld (by rfl) (wanted_plain (by rfl)) (yld_move (by rfl)) (by rfl) (by decide) (by repeat (first | exact SelL.nil | exact SelL.self | apply SelL.cons | exact Sel.here | apply Sel.there | apply SelL.skip)) ?_
                              refine WO.yld (by rfl) (wanted_plain (by rfl)) (yld_move (by rfl)) (by rfl) (by decide) (by repeat (first | exact SelL.nil | exact SelL.self | apply SelL.cons | exact Sel.here | apply Sel.there | apply SelL.skip)) ?_
                              refine WO.yld (by rfl) (wanted_plain (by rfl)) (yld_move (by rfl)) (by rfl) (by decide) (by repeat (first | exact SelL.nil | exact SelL.self | apply SelL.cons | exact Sel.here | apply Sel.there | apply SelL.skip)) ?_
                              refine WO.yld (by rfl) (wanted_plain (by rfl)) (yld_indexAddrS (by rfl) (by rfl) (by exact Try.runUnderlying22) (by exact Try.sizeOf3) (by repeat (first | exact .here | apply Sel.there)) (jj) (by first | rfl | omega) (by omega) (by omega) (by exact Nat.mul_one _)) (by rfl) (by decide) (by repeat (first | exact SelL.nil | exact SelL.self | apply SelL.cons | exact Sel.here | apply Sel.there | apply SelL.skip)) ?_
                              refine WO.yld (by rfl) (wanted_plain (by rfl)) (yld_loadS (by rfl) (by exact Try.isAgg3) (by repeat (first | exact .here | apply Sel.there)) (by rw [List.getElem?_map, hp]; rfl)) (by rfl) (by decide) (by repeat (first | exact SelL.nil | exact SelL.self | apply SelL.cons | exact Sel.here | apply Sel.there | apply SelL.skip)) ?_
                              refine WO.yld (by rfl) (wanted_plain (by rfl)) (yld_indexAddrS (by rfl) (by rfl) (by exact Try.runUnderlying25) (by exact Try.sizeOf26) (by repeat (first | exact .here | apply Sel.there)) (1) (by first | rfl | omega) (by omega) (by omega) (by exact Nat.mul_one _)) (by rfl) (by decide) (by repeat (first | exact SelL.nil | exact SelL.self | apply SelL.cons | exact Sel.here | apply Sel.there | apply SelL.skip)) ?_
                              refine WO.yld (by rfl) (wanted_plain (by rfl)) (yld_loadS (by rfl) (by exact Try.isAgg26) (by repeat (first | exact .here | apply Sel.there)) (by first | rfl | assumption | (simp; done) | (simp [*]; done))) (by rfl) (by decide) (by repeat (first | exact SelL.nil | exact SelL.self | apply SelL.cons | exact Sel.here | apply Sel.there | apply SelL.skip)) ?_
                              refine WO.yld (by rfl) (wanted_plain (by rfl)) (yld_loadA (by rfl) (by exact Try.isAgg40) (by exact Try.sizeOf40) (by repeat (first | exact .here | apply Sel.there)) (by repeat (first | exact Cells.nil | apply Cells.cons | rfl))) (by rfl) (by decide) (by repeat (first | exact SelL.nil | exact SelL.self | apply SelL.cons | exact Sel.here | apply Sel.there | apply SelL.skip)) ?_
                              refine WO.eff (by rfl) (wanted_plain (by rfl)) (eff_call (by exact Try.call20) (by repeat (first | exact Evs.nil | apply Evs.cons | rfl)) (by repeat (first | exact SelL.nil | exact SelL.self | apply SelL.cons | exact Sel.here | apply Sel.there | apply SelL.skip)) (of_spec p.seq p.ack ad6 p.b.length cap6)) (by rfl) (by decide) (by intro x; repeat (first | exact SelL.nil | exact SelL.self | apply SelL.cons | exact Sel.here | apply Sel.there | apply SelL.skip)) ?_
                              rintro _ -
                              try dsimp only
                              refine WO.eff (by rfl) (wanted_plain (by rfl)) (eff_call (by exact Try.call19) (by repeat (first | exact Evs.nil | apply Evs.cons | rfl)) (by repeat (first | exact SelL.nil | exact SelL.self | apply SelL.cons | exact Sel.here | apply Sel.there | apply SelL.skip)) (in_spec q1 e1 (v1.inok (by omega)) p false ad6 cap6)) (by rfl) (by decide) (by intro x; repeat (first | exact SelL.nil | exact SelL.self | apply SelL.cons | exact Sel.here | apply Sel.there | apply SelL.skip)) ?_
                              rintro ⟨ad120, len120, cap120, vs120⟩ hl120
                              obtain ⟨hs1, hs2, hs3, x9, hs4⟩ := Rel.inp (p := p) v1 (by omega)
                              rw [hs1] at hl120 ⊢
                              dsimp only at hl120 ⊢
                              try dsimp only
                              refine WO.eff (by rfl) (wanted_plain (by rfl)) (eff_call (by exact Try.call21) (by repeat (first | exact Evs.nil | apply Evs.cons | rfl)) (by repeat (first | exact SelL.nil | exact SelL.self | apply SelL.cons | exact Sel.here | apply Sel.there | apply SelL.skip)) (refIn_spec m1 r1 p ad6 cap6 (by omega) (by omega) (by omega) (by omega))) (by rfl) (by decide) (by intro x; repeat (first | exact SelL.nil | exact SelL.self | apply SelL.cons | exact Sel.here | apply Sel.there | apply SelL.skip)) ?_
                              rintro ⟨ad129, len129, cap129, vs129⟩ hl129
                              generalize (inR r1 p).1 = ms at hl120 hl129 hs2 hs3 ⊢
                              generalize (inR r1 p).2 = r9 at hs4 ⊢
                              generalize (inM e1 p).2 = e9 at hs4 ⊢
                              dsimp only at hl129 ⊢
                              subst hl120 hl129
                              try dsimp only
                              refine WO.eff (by rfl) (wanted_plain (by rfl)) (eff_call (by exact Try.call18) (by repeat (first | exact Evs.nil | apply Evs.cons | rfl)) (by repeat (first | exact SelL.nil | exact SelL.self | apply SelL.cons | exact Sel.here | apply Sel.there | apply SelL.skip)) (sameLists_spec true true ad120 ad129 ms.length cap120 cap129 ms vs120 vs129 rfl (by omega) (fun b hb => by have := hs3 b hb; omega))) (by rfl) (by decide) (by intro x; repeat (first | exact SelL.nil | exact SelL.self | apply SelL.cons | exact Sel.here | apply Sel.there | apply SelL.skip)) ?_
                              rintro _ -
                              try dsimp only
                              refine WO.yld (by rfl) (wanted_plain (by rfl)) (yld_not (by rfl)) (by rfl) (by decide) (by repeat (first | exact SelL.nil | exact SelL.self | apply SelL.cons | exact Sel.here | apply Sel.there | apply SelL.skip)) ?_
                              refine WO.done ?_
                              refine WK.cond (by rfl) (fun h => by cases h) (fun _ => ?_)
                              refine WK.skip ?_
                              refine WK.endBlock ?_
                              exact WK.goto JB4 ⟨e0, e9, r0, r9, L, la, ll, lc, lv, ta, tl, tc⟩ ⟨⟨x0, v0.mono⟩, ⟨_, hs4⟩, hlink, (by dsimp only; omega)⟩ (by repeat (first | exact KK.nil | refine KK.cons (by first | rfl | (simp; done)) ?_)) (by (try dsimp only [roL, mL, refL, List.cons_append, List.nil_append]); exact (by repeat (first | exact SelL.nil | exact SelL.self | apply SelL.cons | exact Sel.here | apply Sel.there | apply SelL.skip)))
                            · intro J106
                              refine WK.cond (by rfl) (fun hc106 => ?_) (fun hc106 => ?_)
                              · skip
                                have hc106 := of_decide_eq_true hc106
                                refine WK.region ?_
                                refine WL.eff (wanted_plain (by rfl)) (eff_mkSlice0 (by exact Try.runUnderlying31) (by exact Try.sizeOf5)) (by rfl) (by decide) ?_
                                rintro b107 -
                                try dsimp only
                                refine WL.eff (wanted_plain (by rfl)) (eff_mkSlice1 (by rfl) (by rfl) (by exact Try.runUnderlying31) (by exact Try.sizeOf5) (by exact Try.zeroValue5) (by rfl) (by rfl) (by decide) (by rfl)) (by rfl) (by decide) ?_
                                rintro b108 -
                                try dsimp only
                                refine WL.eff (wanted_plain (by rfl)) (eff_append (by rfl) (by rfl) (by exact elem31) (by exact Try.underlying31) (by repeat (first | exact SelL.nil | exact SelL.self | apply SelL.cons | exact Sel.here | apply Sel.there | apply SelL.skip)) (by omega) (by omega)) (by rfl) (by decide) ?_
                                rintro ⟨ad109, cap109⟩ -
                                try dsimp only
                                refine WL.yld (wanted_plain (by rfl)) (yld_fieldAddr (by rfl) (by exact Try.runUnderlying40) (by rfl) (by exact Try.sizeOf31) (by rfl) (by rfl)) (by rfl) (by decide) ?_
                                refine WL.eff0 (wanted_plain (by rfl)) (eff_store (by rfl) (by rfl) (by exact Try.sizeOf31) (by rfl) (by rfl) (by rfl) (by repeat (first | exact .here | apply Sel.there)) (by repeat (first | exact SetAts.nil | apply SetAts.cons | exact SetAt.here | apply SetAt.there))) (by rfl) ?_
                                rintro _ -
                                try dsimp only
                                refine WL.done ?_
                                refine WK.sat (fun w s => (s.sel1 (A := sl true 5 1 ad109 (0 + 1) cap109 ([] ++ [.int .u8 5])) (by repeat (first | exact .here | apply Sel.there))).slFreeze) ?_
                                exact WK.goto J106 ({ p with b := [5] }, ad109, cap109) (by simp) (by repeat (first | exact KK.nil | refine KK.cons (by first | rfl | (simp; done)) ?_)) (by repeat (first | exact SelL.nil | exact SelL.self | apply SelL.cons | exact Sel.here | apply Sel.there | apply SelL.skip))
                              · skip
                                have hc106 := of_decide_eq_false hc106
                                refine WK.skip ?_
                                exact WK.goto J106 (p, ad6, cap6) hpb (by repeat (first | exact KK.nil | refine KK.cons (by first | rfl | (simp; done)) ?_)) (by repeat (first | exact SelL.nil | exact SelL.self | apply SelL.cons | exact Sel.here | apply Sel.there | apply SelL.skip))
                          · intro J98
                            refine WK.cond (by rfl) (fun hc98 => ?_) (fun hc98 => ?_)
                            · skip
                              have hc98 := of_decide_eq_true hc98
                              refine WK.region ?_
                              refine WL.yld (wanted_plain (by rfl)) (yld_move (by rfl)) (by rfl) (by decide) ?_
                              refine WL.yld (wanted_plain (by rfl)) (yld_quo (by rfl) (by rfl) (by omega) (by exact (IntWalk.i64_quo' (nn : Int) 43 ⟨by omega, by omega, by omega⟩).trans (tdivNat nn 43))) (by rfl) (by decide) ?_
                              refine WL.yld (wanted_plain (by rfl)) (yld_rem (by rfl) (by rfl) (by omega) (by exact tmodNat (nn / 43) 9)) (by rfl) (by decide) ?_
                              refine WL.yld (wanted_plain (by rfl)) (yld_sub (by rfl) (by rfl) (by first | exact w64 (by omega) (by omega) | rfl)) (by rfl) (by decide) ?_
                              refine WL.yld (wanted_plain (by rfl)) (yld_fieldAddr (by rfl) (by exact Try.runUnderlying40) (by rfl) (by exact Try.sizeOf3) (by rfl) (by rfl)) (by rfl) (by decide) ?_
                              refine WL.eff0 (wanted_plain (by rfl)) (eff_store (by rfl) (by rfl) (by exact Try.sizeOf3) (by rfl) (by rfl) (by rfl) (by repeat (first | exact .here | apply Sel.there)) (by repeat (first | exact SetAts.nil | apply SetAts.cons | exact SetAt.here | apply SetAt.there))) (by rfl) ?_
                              rintro _ -
                              try dsimp only
                              refine WL.done ?_
                              exact WK.goto J98 ({ p with ack := ((nn / 43 % 9 : Nat) : Int) - 1 }, ad6, cap6) (by exact hpb) (by repeat (first | exact KK.nil | refine KK.cons (by first | rfl | (simp; done)) ?_)) (by repeat (first | exact SelL.nil | exact SelL.self | apply SelL.cons | exact Sel.here | apply Sel.there | apply SelL.skip))
                            · skip
                              have hc98 := of_decide_eq_false hc98
                              refine WK.skip ?_
                              exact WK.goto J98 (p, ad6, cap6) hpb (by repeat (first | exact KK.nil | refine KK.cons (by first | rfl | (simp; done)) ?_)) (by repeat (first | exact SelL.nil | exact SelL.self | apply SelL.cons | exact Sel.here | apply Sel.there | apply SelL.skip))
                        · intro J91
                          refine WK.cond (by rfl) (fun hc91 => ?_) (fun hc91 => ?_)
                          · skip
                            have hc91 := of_decide_eq_true hc91
                            refine WK.region ?_
                            refine WL.yld (wanted_plain (by rfl)) (yld_move (by rfl)) (by rfl) (by decide) ?_
                            refine WL.yld (wanted_plain (by rfl)) (yld_quo (by rfl) (by rfl) (by omega) (by exact (IntWalk.i64_quo' (nn : Int) 41 ⟨by omega, by omega, by omega⟩).trans (tdivNat nn 41))) (by rfl) (by decide) ?_
                            refine WL.yld (wanted_plain (by rfl)) (yld_rem (by rfl) (by rfl) (by omega) (by exact tmodNat (nn / 41) 40)) (by rfl) (by decide) ?_
                            refine WL.yld (wanted_plain (by rfl)) (yld_fieldAddr (by rfl) (by exact Try.runUnderlying40) (by rfl) (by exact Try.sizeOf3) (by rfl) (by rfl)) (by rfl) (by decide) ?_
                            refine WL.eff0 (wanted_plain (by rfl)) (eff_store (by rfl) (by rfl) (by exact Try.sizeOf3) (by rfl) (by rfl) (by rfl) (by repeat (first | exact .here | apply Sel.there)) (by repeat (first | exact SetAts.nil | apply SetAts.cons | exact SetAt.here | apply SetAt.there))) (by rfl) ?_
                            rintro _ -
                            try dsimp only
                            refine WL.done ?_
                            exact WK.goto J91 ({ p with seq := ((nn / 41 % 40 : Nat) : Int) }, ad6, cap6) (by exact hpb) (by repeat (first | exact KK.nil | refine KK.cons (by first | rfl | (simp; done)) ?_)) (by repeat (first | exact SelL.nil | exact SelL.self | apply SelL.cons | exact Sel.here | apply Sel.there | apply SelL.skip))
                          · skip
                            have hc91 := of_decide_eq_false hc91
                            refine WK.skip ?_
                            exact WK.goto J91 (p, ad6, cap6) hpb (by repeat (first | exact KK.nil | refine KK.cons (by first | rfl | (simp; done)) ?_)) (by repeat (first | exact SelL.nil | exact SelL.self | apply SelL.cons | exact Sel.here | apply Sel.there | apply SelL.skip))
                      · skip
                        subst ht
                        refine WL.yld (wanted_plain (by rfl)) (yld_move (by rfl)) (by rfl) (by decide) ?_
                        refine WL.yld (wanted_plain (by rfl)) (yld_move (by rfl)) (by rfl) (by decide) ?_
                        refine WL.yld (wanted_plain (by rfl)) (yld_indexAddrS (by rfl) (by rfl) (by exact Try.runUnderlying30) (by exact Try.sizeOf40) (by repeat (first | exact .here | apply Sel.there)) (jj) (by first | rfl | omega) (by omega) (by omega) (by rfl)) (by rfl) (by decide) ?_
                        refine WL.openS (fun w s => Sat.allByt (k := jj) (bs := p.b) (by rw [List.getElem?_map, hp]; rfl) (s.sel1 (A := allR (byt 5 false) lv (L.map (·.1.b))) (by repeat (first | exact .here | apply Sel.there)))) ?_
                        rintro ⟨ad6, len6, cap6⟩ ⟨hv6, hl6⟩
                        dsimp only at hv6 hl6
                        subst hl6
                        try dsimp only [List.cons_append, List.nil_append]
                        refine WL.yld (wanted_plain (by rfl)) (yld_loadSA (by rfl) (by exact Try.isAgg40) (by exact Try.sizeOf40) (by repeat (first | exact .here | apply Sel.there)) (by exact pktC_cells (j := jj) (by rw [List.getElem?_map, hp]; rfl) hv6)) (by rfl) (by decide) ?_
                        refine WL.eff (wanted_plain (by rfl)) (eff_alloc (by exact Try.zeroValue40) (by rfl)) (by rfl) (by decide) ?_
                        rintro b20 -
                        try dsimp only
                        refine WL.eff0 (wanted_plain (by rfl)) (eff_store (by rfl) (by rfl) (by exact Try.sizeOf40) (by rfl) (by rfl) (by rfl) (by repeat (first | exact .here | apply Sel.there)) (by repeat (first | exact SetAts.nil | apply SetAts.cons | exact SetAt.here | apply SetAt.there))) (by rfl) ?_
                        rintro _ -
                        try dsimp only
                        refine WL.done ?_
                        refine WK.seq ?_
                        refine WK.seq ?_
                        refine WK.region ?_
                        refine WL.yld (wanted_plain (by rfl)) (yld_move (by rfl)) (by rfl) (by decide) ?_
                        refine WL.yld (wanted_plain (by rfl)) (yld_rem (by rfl) (by rfl) (by omega) (by exact tmodNat nn 41)) (by rfl) (by decide) ?_
                        refine WL.yld (wanted_plain (by rfl)) (yld_eql (by rfl) (by rfl)) (by rfl) (by decide) ?_
                        refine WL.done ?_
                        refine WK.cut (ι := Pkt × Option Addr × Nat) (fun x => x.1.b.length ≤ 65536) (fun x => [(1, .slice a1 len1 cap1), (5, .slice (some ⟨eb, 0, none⟩) 2 2), (6, .slice ma 2 mc), (10, .slice la ll lc), (11, .slice ta tl tc), (12, .int .i64 (i : Int)), (13, .int .i64 (nn : Int)), (19, .int .i64 (jj : Int)), (20, .pointer (some ⟨b20, 0, none⟩))]) (fun x => row true b20 40 [.int .i64 x.1.seq, .int .i64 x.1.ack, .slice x.2.1 x.1.b.length x.2.2] :: sl false 5 1 x.2.1 x.1.b.length x.2.2 (x.1.b.map bv) :: endR q0 e0 :: endR q1 e1 :: refR m0 r0 :: refR m1 r1 :: sl true 33 1 (some ⟨eb, 0, none⟩) 2 2 [.pointer (some ⟨q0, 0, none⟩), .pointer (some ⟨q1, 0, none⟩)] :: sl true 26 1 ma 2 mc [.pointer (some ⟨m0, 0, none⟩), .pointer (some ⟨m1, 0, none⟩)] :: sl true 40 3 la ll lc (pktC (L.map (·.1)) lv) :: allR (byt 5 false) lv (L.map (·.1.b)) :: sl true 3 1 ta tl tc (L.map fun p => .int .i64 p.2) :: slr 1 a1 len1 (zs.map (Value.int .i64)) :: F) ?_ ?_
                        · skip
                          rintro ⟨p, ad6, cap6⟩ hpb
                          dsimp only at hpb ⊢
                          refine WK.seq ?_
                          refine WK.seq ?_
                          refine WK.region ?_
                          refine WL.yld (wanted_plain (by rfl)) (yld_move (by rfl)) (by rfl) (by decide) ?_
                          refine WL.yld (wanted_plain (by rfl)) (yld_rem (by rfl) (by rfl) (by omega) (by exact tmodNat nn 43)) (by rfl) (by decide) ?_
                          refine WL.yld (wanted_plain (by rfl)) (yld_eql (by rfl) (by rfl)) (by rfl) (by decide) ?_
                          refine WL.done ?_
                          refine WK.cut (ι := Pkt × Option Addr × Nat) (fun x => x.1.b.length ≤ 65536) (fun x => [(1, .slice a1 len1 cap1), (5, .slice (some ⟨eb, 0, none⟩) 2 2), (6, .slice ma 2 mc), (10, .slice la ll lc), (11, .slice ta tl tc), (12, .int .i64 (i : Int)), (13, .int .i64 (nn : Int)), (19, .int .i64 (jj : Int)), (20, .pointer (some ⟨b20, 0, none⟩))]) (fun x => row true b20 40 [.int .i64 x.1.seq, .int .i64 x.1.ack, .slice x.2.1 x.1.b.length x.2.2] :: sl false 5 1 x.2.1 x.1.b.length x.2.2 (x.1.b.map bv) :: endR q0 e0 :: endR q1 e1 :: refR m0 r0 :: refR m1 r1 :: sl true 33 1 (some ⟨eb, 0, none⟩) 2 2 [.pointer (some ⟨q0, 0, none⟩), .pointer (some ⟨q1, 0, none⟩)] :: sl true 26 1 ma 2 mc [.pointer (some ⟨m0, 0, none⟩), .pointer (some ⟨m1, 0, none⟩)] :: sl true 40 3 la ll lc (pktC (L.map (·.1)) lv) :: allR (byt 5 false) lv (L.map (·.1.b)) :: sl true 3 1 ta tl tc (L.map fun p => .int .i64 p.2) :: slr 1 a1 len1 (zs.map (Value.int .i64)) :: F) ?_ ?_
                          · skip
                            rintro ⟨p, ad6, cap6⟩ hpb
                            dsimp only at hpb ⊢
                            refine WK.seq ?_
                            refine WK.seq ?_
                            refine WK.region ?_
                            refine WL.yld (wanted_plain (by rfl)) (yld_move (by rfl)) (by rfl) (by decide) ?_
                            refine WL.yld (wanted_plain (by rfl)) (yld_rem (by rfl) (by rfl) (by omega) (by exact tmodNat nn 47)) (by rfl) (by decide) ?_
                            refine WL.yld (wanted_plain (by rfl)) (yld_eql (by rfl) (by rfl)) (by rfl) (by decide) ?_
                            refine WL.done ?_
                            refine WK.cut (ι := Pkt × Option Addr × Nat) (fun x => x.1.b.length ≤ 65536) (fun x => [(1, .slice a1 len1 cap1), (5, .slice (some ⟨eb, 0, none⟩) 2 2), (6, .slice ma 2 mc), (10, .slice la ll lc), (11, .slice ta tl tc), (12, .int .i64 (i : Int)), (13, .int .i64 (nn : Int)), (19, .int .i64 (jj : Int)), (20, .pointer (some ⟨b20, 0, none⟩))]) (fun x => row true b20 40 [.int .i64 x.1.seq, .int .i64 x.1.ack, .slice x.2.1 x.1.b.length x.2.2] :: sl false 5 1 x.2.1 x.1.b.length x.2.2 (x.1.b.map bv) :: endR q0 e0 :: endR q1 e1 :: refR m0 r0 :: refR m1 r1 :: sl true 33 1 (some ⟨eb, 0, none⟩) 2 2 [.pointer (some ⟨q0, 0, none⟩), .pointer (some ⟨q1, 0, none⟩)] :: sl true 26 1 ma 2 mc [.pointer (some ⟨m0, 0, none⟩), .pointer (some ⟨m1, 0, none⟩)] :: sl true 40 3 la ll lc (pktC (L.map (·.1)) lv) :: allR (byt 5 false) lv (L.map (·.1.b)) :: sl true 3 1 ta tl tc (L.map fun p => .int .i64 p.2) :: slr 1 a1 len1 (zs.map (Value.int .i64)) :: F) ?_ ?_
                            · skip
                              rintro ⟨p, ad6, cap6⟩ hpb
                              dsimp only at hpb ⊢
                              refine WK.seq ?_
                              refine WK.drawn (by kernel_rfl) [(0, 0), (1, 0), (2, 0), (3, 0), (4, 0), (5, 0), (6, 0), (7, 0), (10, 0), (11, 0), (12, 0), (13, 0), (14, 0), (15, 0), (16, 0), (17, 0), (8, 1), (9, 1), (18, 1), (19, 1), (20, 0)] [sl true 33 1 (some ⟨eb, 0, none⟩) 2 2 [.pointer (some ⟨q0, 0, none⟩), .pointer (some ⟨q1, 0, none⟩)], sl true 26 1 ma 2 mc [.pointer (some ⟨m0, 0, none⟩), .pointer (some ⟨m1, 0, none⟩)], sl true 3 1 ta tl tc (L.map fun p => .int .i64 p.2), row true b20 40 [.int .i64 p.seq, .int .i64 p.ack, .slice ad6 p.b.length cap6]] (by kernel_rfl) (by kernel_rfl) (by kernel_rfl) ?_
                              refine WO.yld (by rfl) (wanted_plain (by rfl)) (yld_move (by rfl)) (by rfl) (by decide) (by repeat (first | exact SelL.nil | exact SelL.self | apply SelL.cons | exact Sel.here | apply Sel.there | apply SelL.skip)) ?_
                              refine WO.yld (by rfl) (wanted_plain (by rfl)) (yld_move (by rfl)) (by rfl) (by decide) (by repeat (first | exact SelL.nil | exact SelL.self | apply SelL.cons | exact Sel.here | apply Sel.there | apply SelL.skip)) ?_
                              refine WO.yld (by rfl) (wanted_plain (by rfl)) (yld_move (by rfl)) (by rfl) (by decide) (by repeat (first | exact SelL.nil | exact SelL.self | apply SelL.cons | exact Sel.here | apply Sel.there | apply SelL.skip)) ?_
                              refine WO.yld (by rfl) (wanted_plain (by rfl)) (yld_indexAddrS (by rfl) (by rfl) (by exact Try.runUnderlying22) (by exact Try.sizeOf3) (by repeat (first | exact .here | apply Sel.there)) (jj) (by first | rfl | omega) (by omega) (by omega) (by exact Nat.mul_one _)) (by rfl) (by decide) (by repeat (first | exact SelL.nil | exact SelL.self | apply SelL.cons | exact Sel.here | apply Sel.there | apply SelL.skip)) ?_
                              refine WO.yld (by rfl) (wanted_plain (by rfl)) (yld_loadS (by rfl) (by exact Try.isAgg3) (by repeat (first | exact .here | apply Sel.there)) (by rw [List.getElem?_map, hp]; rfl)) (by rfl) (by decide) (by repeat (first | exact SelL.nil | exact SelL.self | apply SelL.cons | exact Sel.here | apply Sel.there | apply SelL.skip)) ?_
                              refine WO.yld (by rfl) (wanted_plain (by rfl)) (yld_indexAddrS (by rfl) (by rfl) (by exact Try.runUnderlying23) (by exact Try.sizeOf33) (by repeat (first | exact .here | apply Sel.there)) (0) (by first | rfl | omega) (by omega) (by omega) (by exact Nat.mul_one _)) (by rfl) (by decide) (by repeat (first | exact SelL.nil | exact SelL.self | apply SelL.cons | exact Sel.here | apply Sel.there | apply SelL.skip)) ?_
                              refine WO.yld (by rfl) (wanted_plain (by rfl)) (yld_loadS (by rfl) (by exact Try.isAgg33) (by repeat (first | exact .here | apply Sel.there)) (by first | rfl | assumption | (simp; done) | (simp [*]; done))) (by rfl) (by decide) (by repeat (first | exact SelL.nil | exact SelL.self | apply SelL.cons | exact Sel.here | apply Sel.there | apply SelL.skip)) ?_
                              refine WO.yld (by rfl) (wanted_plain (by rfl)) (yld_loadA (by rfl) (by exact Try.isAgg40) (by exact Try.sizeOf40) (by repeat (first | exact .here | apply Sel.there)) (by repeat (first | exact Cells.nil | apply Cells.cons | rfl))) (by rfl) (by decide) (by repeat (first | exact SelL.nil | exact SelL.self | apply SelL.cons | exact Sel.here | apply Sel.there | apply SelL.skip)) ?_
                              refine WO.yld (by rfl) (wanted_plain (by rfl)) (yld_move (by rfl)) (by rfl) (by decide) (by repeat (first | exact SelL.nil | exact SelL.self | apply SelL.cons | exact Sel.here | apply Sel.there | apply SelL.skip)) ?_
                              refine WO.yld (by rfl) (wanted_plain (by rfl)) (yld_move (by rfl)) (by rfl) (by decide) (by repeat (first | exact SelL.nil | exact SelL.self | apply SelL.cons | exact Sel.here | apply Sel.there | apply SelL.skip)) ?_
                              refine WO.yld (by rfl) (wanted_plain (by rfl)) (yld_move (by rfl)) (by rfl) (by decide) (by repeat (first | exact SelL.nil | exact SelL.self | apply SelL.cons | exact Sel.here | apply Sel.there | apply SelL.skip)) ?_
                              refine WO.yld (by rfl) (wanted_plain (by rfl)) (yld_indexAddrS (by rfl) (by rfl) (by exact Try.runUnderlying22) (by exact Try.sizeOf3) (by repeat (first | exact .here | apply Sel.there)) (jj) (by first | rfl | omega) (by omega) (by omega) (by exact Nat.mul_one _)) (by rfl) (by decide) (by repeat (first | exact SelL.nil | exact SelL.self | apply SelL.cons | exact Sel.here | apply Sel.there | apply SelL.skip)) ?_
                              refine WO.yld (by rfl) (wanted_plain (by rfl)) (yld_loadS (by rfl) (by exact Try.isAgg3) (by repeat (first | exact .here | apply Sel.there)) (by rw [List.getElem?_map, hp]; rfl)) (by rfl) (by decide) (by repeat (first | exact SelL.nil | exact SelL.self | apply SelL.cons | exact Sel.here | apply Sel.there | apply SelL.skip)) ?_
                              refine WO.yld (by rfl) (wanted_plain (by rfl)) (yld_indexAddrS (by rfl) (by rfl) (by exact Try.runUnderlying25) (by exact Try.sizeOf26) (by repeat (first | exact .here | apply Sel.there)) (0) (by first | rfl | omega) (by omega) (by omega) (by exact Nat.mul_one _)) (by rfl) (by decide) (by repeat (first | exact SelL.nil | exact SelL.self | apply SelL.cons | exact Sel.here | apply Sel.there | apply SelL.skip)) ?_
                              refine WO.yld (by rfl) (wanted_plain (by rfl)) (yld_loadS (by rfl) (by exact Try.isAgg26) (by repeat (first | exact .here | apply Sel.there)) (by first | rfl | assumption | (simp; done) | (simp [*]; done))) (by rfl) (by decide) (by repeat (first | exact SelL.nil | exact SelL.self | apply SelL.cons | exact Sel.here | apply Sel.there | apply SelL.skip)) ?_
                              refine WO.yld (by rfl) (wanted_plain (by rfl)) (yld_loadA (by rfl) (by exact Try.isAgg40) (by exact Try.sizeOf40) (by repeat (first | exact .here | apply Sel.there)) (by repeat (first | exact Cells.nil | apply Cells.cons | rfl))) (by rfl) (by decide) (by repeat (first | exact SelL.nil | exact SelL.self | apply SelL.cons | exact Sel.here | apply Sel.there | apply SelL.skip)) ?_
                              refine WO.eff (by rfl) (wanted_plain (by rfl)) (eff_call (by exact Try.call20) (by repeat (first | exact Evs.nil | apply Evs.cons | rfl)) (by repeat (first | exact SelL.nil | exact SelL.self | apply SelL.cons | exact Sel.here | apply Sel.there | apply SelL.skip)) (of_spec p.seq p.ack ad6 p.b.length cap6)) (by rfl) (by decide) (by intro x; repeat (first | exact SelL.nil | exact SelL.self | apply SelL.cons | exact Sel.here | apply Sel.there | apply SelL.skip)) ?_
                              rintro _ -
                              try dsimp only
                              refine WO.eff (by rfl) (wanted_plain (by rfl)) (eff_call (by exact Try.call19) (by repeat (first | exact Evs.nil | apply Evs.cons | rfl)) (by repeat (first | exact SelL.nil | exact SelL.self | apply SelL.cons | exact Sel.here | apply Sel.there | apply SelL.skip)) (in_spec q0 e0 (v0.inok (by omega)) p false ad6 cap6)) (by rfl) (by decide) (by intro x; repeat (first | exact SelL.nil | exact SelL.self | apply SelL.cons | exact Sel.here | apply Sel.there | apply SelL.skip)) ?_
                              rintro ⟨ad120, len120, cap120, vs120⟩ hl120
                              obtain ⟨hs1, hs2, hs3, x9, hs4⟩ := Rel.inp (p := p) v0 (by omega)
                              rw [hs1] at hl120 ⊢
                              dsimp only at hl120 ⊢
                              try dsimp only
                              refine WO.eff (by rfl) (wanted_plain (by rfl)) (eff_call (by exact Try.call21) (by repeat (first | exact Evs.nil | apply Evs.cons | rfl)) (by repeat (first | exact SelL.nil | exact SelL.self | apply SelL.cons | exact Sel.here | apply Sel.there | apply SelL.skip)) (refIn_spec m0 r0 p ad6 cap6 (by omega) (by omega) (by omega) (by omega))) (by rfl) (by decide) (by intro x; repeat (first | exact SelL.nil | exact SelL.self | apply SelL.cons | exact Sel.here | apply Sel.there | apply SelL.skip)) ?_
                              rintro ⟨ad129, len129, cap129, vs129⟩ hl129
                              generalize (inR r0 p).1 = ms at hl120 hl129 hs2 hs3 ⊢
                              generalize (inR r0 p).2 = r9 at hs4 ⊢
                              generalize (inM e0 p).2 = e9 at hs4 ⊢
                              dsimp only at hl129 ⊢
                              subst hl120 hl129
                              try dsimp only
                              refine WO.eff (by rfl) (wanted_plain (by rfl)) (eff_call (by exact Try.call18) (by repeat (first | exact Evs.nil | apply Evs.cons | rfl)) (by repeat (first | exact SelL.nil | exact SelL.self | apply SelL.cons | exact Sel.here | apply Sel.there | apply SelL.skip)) (sameLists_spec true true ad120 ad129 ms.length cap120 cap129 ms vs120 vs129 rfl (by omega) (fun b hb => by have := hs3 b hb; omega))) (by rfl) (by decide) (by intro x; repeat (first | exact SelL.nil | exact SelL.self | apply SelL.cons | exact Sel.here | apply Sel.there | apply SelL.skip)) ?_
                              rintro _ -
                              try dsimp only
                              refine WO.yld (by rfl) (wanted_plain (by rfl)) (yld_not (by rfl)) (by rfl) (by decide) (by repeat (first | exact SelL.nil | exact SelL.self | apply SelL.cons | exact Sel.here | apply Sel.there | apply SelL.skip)) ?_
                              refine WO.done ?_
                              refine WK.cond (by rfl) (fun h => by cases h) (fun _ => ?_)
                              refine WK.skip ?_
                              refine WK.endBlock ?_
                              exact WK.goto JB4 ⟨e9, e1, r9, r1, L, la, ll, lc, lv, ta, tl, tc⟩ ⟨⟨_, hs4⟩, ⟨x1, v1.mono⟩, hlink, (by dsimp only; omega)⟩ (by repeat (first | exact KK.nil | refine KK.cons (by first | rfl | (simp; done)) ?_)) (by (try dsimp only [roL, mL, refL, List.cons_append, List.nil_append]); exact (by repeat (first | exact SelL.nil | exact SelL.self | apply SelL.cons | exact Sel.here | apply Sel.there | apply SelL.skip)))
                            · intro J106
                              refine WK.cond (by rfl) (fun hc106 => ?_) (fun hc106 => ?_)
                              · skip
                                have hc106 := of_decide_eq_true hc106
                                refine WK.region ?_
                                refine WL.eff (wanted_plain (by rfl)) (eff_mkSlice0 (by exact Try.runUnderlying31) (by exact Try.sizeOf5)) (by rfl) (by decide) ?_
                                rintro b107 -
                                try dsimp only
                                refine WL.eff (wanted_plain (by rfl)) (eff_mkSlice1 (by rfl) (by rfl) (by exact Try.runUnderlying31) (by exact Try.sizeOf5) (by exact Try.zeroValue5) (by rfl) (by rfl) (by decide) (by rfl)) (by rfl) (by decide) ?_
                                rintro b108 -
                                try dsimp only
                                refine WL.eff (wanted_plain (by rfl)) (eff_append (by rfl) (by rfl) (by exact elem31) (by exact Try.underlying31) (by repeat (first | exact SelL.nil | exact SelL.self | apply SelL.cons | exact Sel.here | apply Sel.there | apply SelL.skip)) (by omega) (by omega)) (by rfl) (by decide) ?_
                                rintro ⟨ad109, cap109⟩ -
                                try dsimp only
                                refine WL.yld (wanted_plain (by rfl)) (yld_fieldAddr (by rfl) (by exact Try.runUnderlying40) (by rfl) (by exact Try.sizeOf31) (by rfl) (by rfl)) (by rfl) (by decide) ?_
                                refine WL.eff0 (wanted_plain (by rfl)) (eff_store (by rfl) (by rfl) (by exact Try.sizeOf31) (by rfl) (by rfl) (by rfl) (by repeat (first | exact .here | apply Sel.there)) (by repeat (first | exact SetAts.nil | apply SetAts.cons | exact SetAt.here | apply SetAt.there))) (by rfl) ?_
                                rintro _ -
                                try dsimp only
                                refine WL.done ?_
                                refine WK.sat (fun w s => (s.sel1 (A := sl true 5 1 ad109 (0 + 1) cap109 ([] ++ [.int .u8 5])) (by repeat (first | exact .here | apply Sel.there))).slFreeze) ?_
                                exact WK.goto J106 ({ p with b := [5] }, ad109, cap109) (by simp) (by repeat (first | exact KK.nil | refine KK.cons (by first | rfl | (simp; done)) ?_)) (by repeat (first | exact SelL.nil | exact SelL.self | apply SelL.cons | exact Sel.here | apply Sel.there | apply SelL.skip))
                              · skip
                                have hc106 := of_decide_eq_false hc106
                                refine WK.skip ?_
                                exact WK.goto J106 (p, ad6, cap6) hpb (by repeat (first | exact KK.nil | refine KK.cons (by first | rfl | (simp; done)) ?_)) (by repeat (first | exact SelL.nil | exact SelL.self | apply SelL.cons | exact Sel.here | apply Sel.there | apply SelL.skip))
                          · intro J98
                            refine WK.cond (by rfl) (fun hc98 => ?_) (fun hc98 => ?_)
                            · skip
                              have hc98 := of_decide_eq_true hc98
                              refine WK.region ?_
                              refine WL.yld (wanted_plain (by rfl)) (yld_move (by rfl)) (by rfl) (by decide) ?_
                              refine WL.yld (wanted_plain (by rfl)) (yld_quo (by rfl) (by rfl) (by omega) (by exact (IntWalk.i64_quo' (nn : Int) 43 ⟨by omega, by omega, by omega⟩).trans (tdivNat nn 43))) (by rfl) (by decide) ?_
                              refine WL.yld (wanted_plain (by rfl)) (yld_rem (by rfl) (by rfl) (by omega) (by exact tmodNat (nn / 43) 9)) (by rfl) (by decide) ?_
                              refine WL.yld (wanted_plain (by rfl)) (yld_sub (by rfl) (by rfl) (by first | exact w64 (by omega) (by omega) | rfl)) (by rfl) (by decide) ?_
                              refine WL.yld (wanted_plain (by rfl)) (yld_fieldAddr (by rfl) (by exact Try.runUnderlying40) (by rfl) (by exact Try.sizeOf3) (by rfl) (by rfl)) (by rfl) (by decide) ?_
                              refine WL.eff0 (wanted_plain (by rfl)) (eff_store (by rfl) (by rfl) (by exact Try.sizeOf3) (by rfl) (by rfl) (by rfl) (by repeat (first | exact .here | apply Sel.there)) (by repeat (first | exact SetAts.nil | apply SetAts.cons | exact SetAt.here | apply SetAt.there))) (by rfl) ?_
                              rintro _ -
                              try dsimp only
                              refine WL.done ?_
                              exact WK.goto J98 ({ p with ack := ((nn / 43 % 9 : Nat) : Int) - 1 }, ad6, cap6) (by exact hpb) (by repeat (first | exact KK.nil | refine KK.cons (by first | rfl | (simp; done)) ?_)) (by repeat (first | exact SelL.nil | exact SelL.self | apply SelL.cons | exact Sel.here | apply Sel.there | apply SelL.skip))
                            · skip
                              have hc98 := of_decide_eq_false hc98
                              refine WK.skip ?_
                              exact WK.goto J98 (p, ad6, cap6) hpb (by repeat (first | exact KK.nil | refine KK.cons (by first | rfl | (simp; done)) ?_)) (by repeat (first | exact SelL.nil | exact SelL.self | apply SelL.cons | exact Sel.here | apply Sel.there | apply SelL.skip))
                        · intro J91
                          refine WK.cond (by rfl) (fun hc91 => ?_) (fun hc91 => ?_)
                          · skip
                            have hc91 := of_decide_eq_true hc91
                            refine WK.region ?_
                            refine WL.yld (wanted_plain (by rfl)) (yld_move (by rfl)) (by rfl) (by decide) ?_
                            refine WL.yld (wanted_plain (by rfl)) (yld_quo (by rfl) (by rfl) (by omega) (by exact (IntWalk.i64_quo' (nn : Int) 41 ⟨by omega, by omega, by omega⟩).trans (tdivNat nn 41))) (by rfl) (by decide) ?_
                            refine WL.yld (wanted_plain (by rfl)) (yld_rem (by rfl) (by rfl) (by omega) (by exact tmodNat (nn / 41) 40)) (by rfl) (by decide) ?_
                            refine WL.yld (wanted_plain (by rfl)) (yld_fieldAddr (by rfl) (by exact Try.runUnderlying40) (by rfl) (by exact Try.sizeOf3) (by rfl) (by rfl)) (by rfl) (by decide) ?_
                            refine WL.eff0 (wanted_plain (by rfl)) (eff_store (by rfl) (by rfl) (by exact Try.sizeOf3) (by rfl) (by rfl) (by rfl) (by repeat (first | exact .here | apply Sel.there)) (by repeat (first | exact SetAts.nil | apply SetAts.cons | exact SetAt.here | apply SetAt.there))) (by rfl) ?_
                            rintro _ -
                            try dsimp only
                            refine WL.done ?_
                            exact WK.goto J91 ({ p with seq := ((nn / 41 % 40 : Nat) : Int) }, ad6, cap6) (by exact hpb) (by repeat (first | exact KK.nil | refine KK.cons (by first | rfl | (simp; done)) ?_)) (by repeat (first | exact SelL.nil | exact SelL.self | apply SelL.cons | exact Sel.here | apply Sel.there | apply SelL.skip))
                          · skip
                            have hc91 := of_decide_eq_false hc91
                            refine WK.skip ?_
                            exact WK.goto J91 (p, ad6, cap6) hpb (by repeat (first | exact KK.nil | refine KK.cons (by first | rfl | (simp; done)) ?_)) (by repeat (first | exact SelL.nil | exact SelL.self | apply SelL.cons | exact Sel.here | apply Sel.there | apply SelL.skip))
                · intro J153
                  refine WK.cond (by rfl) (fun hc153 => ?_) (fun hc153 => ?_)
                  · skip
                    have hc153 := of_decide_eq_true hc153
                    refine WK.skip ?_
                    exact WK.goto J153 _ trivial (by repeat (first | exact KK.nil | refine KK.cons (by first | rfl | (simp; done)) ?_)) (by repeat (first | exact SelL.nil | exact SelL.self | apply SelL.cons | exact Sel.here | apply Sel.there | apply SelL.skip))
                  · skip
                    have hc153 := of_decide_eq_false hc153
                    refine WK.region ?_
                    refine WL.yld (wanted_plain (by rfl)) (yld_eql (by rfl) (by rfl)) (by rfl) (by decide) ?_
                    refine WL.yld (wanted_plain (by rfl)) (yld_assign (by rfl)) (by rfl) (by decide) ?_
                    refine WL.done ?_
                    exact WK.goto J153 _ trivial (by repeat (first | exact KK.nil | refine KK.cons (by first | rfl | (simp; done)) ?_)) (by repeat (first | exact SelL.nil | exact SelL.self | apply SelL.cons | exact Sel.here | apply Sel.there | apply SelL.skip))
            · intro J132
              refine WK.cond (by rfl) (fun hc132 => ?_) (fun hc132 => ?_)
              · skip
                have hc132 := of_decide_eq_true hc132
                refine WK.skip ?_
                exact WK.goto J132 _ trivial (by repeat (first | exact KK.nil | refine KK.cons (by first | rfl | (simp; done)) ?_)) (by repeat (first | exact SelL.nil | exact SelL.self | apply SelL.cons | exact Sel.here | apply Sel.there | apply SelL.skip))
              · skip
                have hc132 := of_decide_eq_false hc132
                refine WK.region ?_
                refine WL.yld (wanted_plain (by rfl)) (yld_eql (by rfl) (by rfl)) (by rfl) (by decide) ?_
                refine WL.yld (wanted_plain (by rfl)) (yld_assign (by rfl)) (by rfl) (by decide) ?_
                refine WL.done ?_
                exact WK.goto J132 _ trivial (by repeat (first | exact KK.nil | refine KK.cons (by first | rfl | (simp; done)) ?_)) (by repeat (first | exact SelL.nil | exact SelL.self | apply SelL.cons | exact Sel.here | apply Sel.there | apply SelL.skip))
        · skip
          have hc56 := of_decide_eq_false hc56
          refine WK.exit ?_
          repeat (first | refine XQ.then_ ?_ | refine XQ.block (by rfl) ?_)
          refine XQ.here ?_
          refine WK.seq ?_
          refine WK.region ?_
          refine WL.eff (wanted_plain (by rfl)) (eff_call (by exact Try.call23) (by repeat (first | exact Evs.nil | apply Evs.cons | rfl)) (by repeat (first | exact SelL.nil | exact SelL.self | apply SelL.cons | exact Sel.here | apply Sel.there | apply SelL.skip)) lives_spec) (by rfl) (by decide) ?_
          rintro _ -
          try dsimp only
          refine WL.yld (wanted_plain (by rfl)) (yld_assign (by rfl)) (by rfl) (by decide) ?_
          refine WL.done ?_
          refine WK.ret ?_
          repeat (first | refine RQ.block ?_ | refine RQ.then_ ?_)
          refine RQ.body (results1 (by rfl) (by rfl)) (fun w s => ?_)
          exact ⟨(), trivial, rfl, s.toCs (by repeat (first | exact SelL.nil | exact SelL.self | apply SelL.cons | exact Sel.here | apply Sel.there | apply SelL.skip))⟩
      · skip
        have hc53 := of_decide_eq_false hc53
        refine WL.skip (unwanted_some (by rfl) (by rfl) (by rfl) (by rfl)) (by rfl) (by decide) ?_
        refine WL.skip (unwanted_some (by rfl) (by rfl) (by rfl) (by rfl)) (by rfl) (by decide) ?_
        refine WL.yld (wanted_plain (by rfl)) (yld_pick_false (by rfl) (by rfl)) (by rfl) (by decide) ?_
        refine WL.done ?_
        refine WK.cond (by rfl) (fun h => by cases h) (fun _ => ?_)
        refine WK.exit ?_
        repeat (first | refine XQ.then_ ?_ | refine XQ.block (by rfl) ?_)
        refine XQ.here ?_
        refine WK.seq ?_
        refine WK.region ?_
        refine WL.eff (wanted_plain (by rfl)) (eff_call (by exact Try.call23) (by repeat (first | exact Evs.nil | apply Evs.cons | rfl)) (by repeat (first | exact SelL.nil | exact SelL.self | apply SelL.cons | exact Sel.here | apply Sel.there | apply SelL.skip)) lives_spec) (by rfl) (by decide) ?_
        rintro _ -
        try dsimp only
        refine WL.yld (wanted_plain (by rfl)) (yld_assign (by rfl)) (by rfl) (by decide) ?_
        refine WL.done ?_
        refine WK.ret ?_
        repeat (first | refine RQ.block ?_ | refine RQ.then_ ?_)
        refine RQ.body (results1 (by rfl) (by rfl)) (fun w s => ?_)
        exact ⟨(), trivial, rfl, s.toCs (by repeat (first | exact SelL.nil | exact SelL.self | apply SelL.cons | exact Sel.here | apply Sel.there | apply SelL.skip))⟩
end Go.Proofs.Ytnknclbiamhnaaa
