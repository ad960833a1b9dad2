import Derived.Test.YtnknclbiamhnaaaChanW
namespace Go.Proofs.Ytnknclbiamhnaaa
set_option linter.unusedVariables false
set_option linter.unusedSimpArgs false
set_option linter.unusedSectionVars false
open Go Go.Sep
attribute [local irreducible] row sl mapO held exL allR byt mapI slr endL
/-! ### Order -/
/-- What is on the way from x, which sent s, to y. -/
def Dir (x y : EndM) (s : List (List UInt8)) : Prop :=
  ∃ A D : Nat, x.acked = A ∧ y.delivered = D ∧ A ≤ D ∧ D ≤ s.length ∧ x.waiting = s.drop A ∧ ∀ p ∈ y.held, ∃ m : Nat, p.1 = (m : Int) + 1 ∧ s[m]? = some p.2
/-- A packet that y sent, where it had sent s. -/
def PktOk (p : Pkt) (s : List (List UInt8)) (y : EndM) : Prop := 0 ≤ p.ack ∧ p.ack ≤ y.delivered ∧ ((p.seq = 0 ∧ p.b = []) ∨ ∃ m : Nat, p.seq = (m : Int) + 1 ∧ s[m]? = some p.b)
structure Sane (i : Nat) (e : EndM) : Prop where
  win : 1 ≤ e.window ∧ e.window ≤ 16
  held : e.held.length ≤ i

theorem mem_mdel {α : Type} {k : Int} {p : Int × α} : ∀ {m : List (Int × α)}, p ∈ mdel m k → p ∈ m
  | [], h => h
  | (j, u) :: m, h => by
    unfold mdel at h
    split at h
    · exact .tail _ h
    · rcases List.mem_cons.1 h with h | h
      · exact h ▸ .head _
      · exact .tail _ (mem_mdel h)
theorem mem_mget {α : Type} {k : Int} {v : α} : ∀ {m : List (Int × α)}, mget m k = some v → (k, v) ∈ m
  | [], h => by simp [mget] at h
  | (j, u) :: m, h => by
    unfold mget at h
    split at h
    · rename_i hj; cases h; subst hj; exact .head _
    · exact .tail _ (mem_mget h)
theorem mdel_len {α : Type} {k : Int} : ∀ {m : List (Int × α)}, (mdel m k).length ≤ m.length
  | [] => by simp [mdel]
  | (j, u) :: m => by
    unfold mdel
    split
    · simp
    · simp [mdel_len (m := m)]

theorem deliver_ok {s : List (List UInt8)} : ∀ (n : Nat) (D : Nat) (h : List (Int × List UInt8)), D ≤ s.length → (∀ p ∈ h, ∃ m : Nat, p.1 = (m : Int) + 1 ∧ s[m]? = some p.2) →
    ∃ k : Nat, (deliver n D h).1 = (s.drop D).take k ∧ (deliver n D h).1.length = k ∧ (deliver n D h).2.1 = ((D + k : Nat) : Int) ∧ D + k ≤ s.length ∧ (∀ p ∈ (deliver n D h).2.2, p ∈ h) ∧ (deliver n D h).2.2.length ≤ h.length
  | 0, D, h, hD, _ => ⟨0, by simp [deliver], by simp [deliver], by simp [deliver], by omega, by simp [deliver], by simp [deliver]⟩
  | n + 1, D, h, hD, hh => by
    rcases hg : mget h ((D : Int) + 1) with _ | b
    · refine ⟨0, ?_⟩
      simp [deliver, hg, hD]
    · obtain ⟨m, hm1, hm2⟩ := hh _ (mem_mget hg)
      have hm : m = D := by simp only at hm1; omega
      subst hm
      have hlt : m < s.length := by
        rcases Nat.lt_or_ge m s.length with h | h
        · exact h
        · rw [List.getElem?_eq_none h] at hm2; cases hm2
      obtain ⟨k, h1, h2, h3, h4, h5, h6⟩ := deliver_ok n (m + 1) (mdel h ((m : Int) + 1)) (by omega) (fun p hp => hh p (mem_mdel hp))
      have hc : ((m : Int) + 1) = ((m + 1 : Nat) : Int) := by omega
      refine ⟨k + 1, ?_⟩
      have hd : deliver (n + 1) (m : Int) h = (b :: (deliver n ((m : Int) + 1) (mdel h ((m : Int) + 1))).1, (deliver n ((m : Int) + 1) (mdel h ((m : Int) + 1))).2) := by
        simp [deliver, hg]
      rw [hc] at h1 h2 h3 h5 h6
      rw [hd, hc]
      have hs : s.drop m = b :: s.drop (m + 1) := by
        rw [List.drop_eq_getElem_cons hlt]
        rw [List.getElem?_eq_getElem hlt] at hm2
        cases hm2; rfl
      refine ⟨?_, ?_, ?_, by omega, fun p hp => mem_mdel (h5 p hp), Nat.le_trans h6 mdel_len⟩
      · simp only; rw [h1, hs, List.take_succ_cons]
      · simp only [List.length_cons]; rw [h2]
      · simp only; rw [h3]; congr 1; omega

theorem Dir.send {x y : EndM} {s : List (List UInt8)} {b : List UInt8} (h : Dir x y s) (hs : s.length < 1000) (hb : b.length ≤ 65536) : sendM x b = (0, { x with waiting := x.waiting ++ [b] }) ∧ Dir { x with waiting := x.waiting ++ [b] } y (s ++ [b]) := by
  obtain ⟨A, D, h1, h2, h3, h4, h5, h6⟩ := h
  constructor
  · unfold sendM
    rw [if_neg]
    rw [h5, List.length_drop]; omega
  · refine ⟨A, D, h1, h2, h3, by simp; omega, ?_, fun p hp => ?_⟩
    · simp only; rw [h5, List.drop_append_of_le_length (by omega)]
    · obtain ⟨m, hm1, hm2⟩ := h6 p hp
      exact ⟨m, hm1, by rw [List.getElem?_append_left]; exact hm2; rcases Nat.lt_or_ge m s.length with h | h; exact h; rw [List.getElem?_eq_none h] at hm2; cases hm2⟩
theorem Dir.other {x y x' : EndM} {s : List (List UInt8)} (h : Dir y x s) (h1 : x'.delivered = x.delivered) (h2 : x'.held = x.held) : Dir y x' s := by
  obtain ⟨A, D, a1, a2, a3, a4, a5, a6⟩ := h
  exact ⟨A, D, a1, by rw [h1]; exact a2, a3, a4, a5, by rw [h2]; exact a6⟩
theorem Dir.own {x x' y : EndM} {s : List (List UInt8)} (h : Dir x y s) (h1 : x'.acked = x.acked) (h2 : x'.waiting = x.waiting) : Dir x' y s := by
  obtain ⟨A, D, a1, a2, a3, a4, a5, a6⟩ := h
  exact ⟨A, D, by rw [h1]; exact a1, a2, a3, a4, by rw [h2]; exact a5, a6⟩
theorem PktOk.mono {p : Pkt} {s s' : List (List UInt8)} {y y' : EndM} (h : PktOk p s y) (hs : ∃ t, s' = s ++ t) (hd : y.delivered ≤ y'.delivered) : PktOk p s' y' := by
  obtain ⟨t, rfl⟩ := hs
  refine ⟨h.1, Int.le_trans h.2.1 hd, ?_⟩
  rcases h.2.2 with h | ⟨m, h1, h2⟩
  · exact .inl h
  · refine .inr ⟨m, h1, ?_⟩
    rw [List.getElem?_append_left]
    exact h2
    rcases Nat.lt_or_ge m s.length with h | h
    · exact h
    · rw [List.getElem?_eq_none h] at h2; cases h2

theorem Dir.okE {x y : EndM} {s s' : List (List UInt8)} {i : Nat} (hx : Sane i x) (h : Dir x y s) (h' : Dir y x s') (hs : s.length ≤ 1000) (hs' : s'.length ≤ 1000) (hb : ∀ b ∈ s, b.length ≤ 65536) : EndOk x := by
  obtain ⟨A, D, a1, a2, a3, a4, a5, a6⟩ := h
  obtain ⟨A', D', b1, b2, b3, b4, b5, b6⟩ := h'
  exact ⟨hx.win, by omega, by omega, by rw [a5, List.length_drop]; omega, fun b h => hb b (List.mem_of_mem_drop (a5 ▸ h))⟩
theorem Dir.inok {x y : EndM} {s s' : List (List UInt8)} {i : Nat} (hx : Sane i x) (h : Dir x y s) (h' : Dir y x s') (hs : s.length ≤ 1000) (hs' : s'.length ≤ 1000) (hi : i ≤ 1000) : InOk x := by
  obtain ⟨A, D, a1, a2, a3, a4, a5, a6⟩ := h
  obtain ⟨A', D', b1, b2, b3, b4, b5, b6⟩ := h'
  have := hx.held
  exact ⟨by omega, by omega, by rw [a5, List.length_drop]; omega, by omega⟩

theorem Dir.out {x y : EndM} {s s' : List (List UInt8)} (h : Dir x y s) (h' : Dir y x s') : ∀ p ∈ (outM x).1, PktOk p s x := by
  obtain ⟨A, D, a1, a2, a3, a4, a5, a6⟩ := h
  obtain ⟨A', D', b1, b2, b3, b4, b5, b6⟩ := h'
  intro p hp
  unfold outM at hp
  dsimp only at hp
  split at hp
  · simp at hp
    subst hp
    exact ⟨by simp only; omega, by simp, .inl ⟨rfl, rfl⟩⟩
  · obtain ⟨j, hj⟩ := List.getElem?_of_mem hp
    unfold outL at hj
    rw [pkts_get, a5] at hj
    simp only [Nat.zero_add, Option.map_eq_some_iff] at hj
    obtain ⟨b, hb, rfl⟩ := hj
    rw [List.getElem?_take] at hb
    split at hb
    · rw [List.getElem?_drop] at hb
      exact ⟨by simp only; omega, by simp, .inr ⟨A + j, by simp only; omega, hb⟩⟩
    · cases hb

/-- What an end does with a packet of the other one. -/
theorem Dir.inp {x y : EndM} {s s' : List (List UInt8)} {p : Pkt} (h : Dir x y s') (h' : Dir y x s) (hp : PktOk p s y) : ∃ D k : Nat, x.delivered = D ∧ (inM x p).1 = (s.drop D).take k ∧ (inM x p).1.length = k ∧ (inM x p).2.delivered = ((D + k : Nat) : Int) ∧ D + k ≤ s.length ∧
    Dir (inM x p).2 y s' ∧ Dir y (inM x p).2 s ∧ (inM x p).2.held.length ≤ x.held.length + 1 ∧ (inM x p).2.window = x.window := by
  obtain ⟨A, D, a1, a2, a3, a4, a5, a6⟩ := h
  obtain ⟨A', D', b1, b2, b3, b4, b5, b6⟩ := h'
  obtain ⟨p1, p2, p3⟩ := hp
  unfold inM
  by_cases hc : validB p.seq p.ack p.b.length = false ∨ x.acked + x.waiting.length < p.ack ∨ x.delivered + 16 < p.seq
  · rw [if_pos hc]
    exact ⟨D', 0, b2, by simp, rfl, by simp [b2], by omega, ⟨A, D, a1, a2, a3, a4, a5, a6⟩, ⟨A', D', b1, b2, b3, b4, b5, b6⟩, by simp, rfl⟩
  · rw [if_neg hc]
    have hack : ∃ B : Nat, (ackM x p.ack).acked = B ∧ B ≤ D ∧ (ackM x p.ack).waiting = s'.drop B := by
      unfold ackM
      by_cases hk : 0 < p.ack - x.acked
      · rw [if_pos hk]
        refine ⟨p.ack.toNat, by simp only; omega, by omega, ?_⟩
        simp only
        rw [a5, List.drop_drop]
        congr 1; omega
      · rw [if_neg hk]
        exact ⟨A, a1, a3, a5⟩
    obtain ⟨f1, f2, f3, f4⟩ := ackM_fix x p.ack
    obtain ⟨B, c1, c2, c3⟩ := hack
    generalize ackM x p.ack = z at f1 f2 f3 f4 c1 c3
    by_cases h0 : p.seq = 0
    · rw [if_pos h0]
      exact ⟨D', 0, b2, by simp, rfl, by simp [f1, b2], by omega, ⟨B, D, c1, a2, c2, a4, c3, a6⟩, ⟨A', D', b1, by rw [f1]; exact b2, b3, b4, b5, by rw [f2]; exact b6⟩, by simp [f2], f3⟩
    · rw [if_neg h0]
      obtain ⟨m, hm1, hm2⟩ : ∃ m : Nat, p.seq = (m : Int) + 1 ∧ s[m]? = some p.b := by
        rcases p3 with p3 | p3
        · exact absurd p3.1 h0
        · exact p3
      obtain ⟨g1, g2, g3, g4, g5⟩ := holdM_fix z p
      have g6 := holdM_len z p
      have g7 : ∀ q ∈ (holdM z p).held, ∃ m : Nat, q.1 = (m : Int) + 1 ∧ s[m]? = some q.2 := by
        unfold holdM
        split
        · rename_i hh
          show ∀ q ∈ mset z.held p.seq p.b, _
          rw [mset_none hh.2, f2]
          intro q hq
          rcases List.mem_append.1 hq with hq | hq
          · exact b6 q hq
          · simp at hq; subst hq; exact ⟨m, hm1, hm2⟩
        · simp only [f2]; exact b6
      have hd : (holdM z p).delivered = (D' : Int) := by rw [g1, f1]; exact b2
      obtain ⟨k, e1, e2, e3, e4, e5, e6⟩ := deliver_ok (s := s) (holdM z p).held.length D' (holdM z p).held b4 g7
      rw [← hd] at e1 e2 e3 e5 e6
      refine ⟨D', k, b2, e1, e2, e3, e4, ⟨B, D, by simp only; rw [g3]; exact c1, a2, c2, a4, by simp only; rw [g2]; exact c3, a6⟩, ⟨A', D' + k, b1, e3, by omega, e4, b5, fun q hq => g7 q (e5 q hq)⟩, by simp only; rw [f2] at g6; omega, by simp only; rw [g4]; exact f3⟩
theorem outM_len {e : EndM} (h : 1 ≤ e.window ∧ e.window ≤ 16) : (outM e).1.length ≤ 16 := by
  unfold outM
  dsimp only
  split
  · simp
  · rw [outL_len]; unfold outN; omega
theorem Sane.mono {i : Nat} {e e' : EndM} (h : Sane i e) (h1 : e'.window = e.window) (h2 : e'.held.length ≤ e.held.length + 1) : Sane (i + 1) e' := ⟨by rw [h1]; exact h.win, by have := h.held; omega⟩

structure OX where
  e0 : EndM
  e1 : EndM
  s0 : List (List UInt8)
  s1 : List (List UInt8)
  L : List (Pkt × Nat)
  sa0 : Option Addr
  sl0 : Nat
  sc0 : Nat
  sv0 : List Value
  sa1 : Option Addr
  sl1 : Nat
  sc1 : Nat
  sv1 : List Value
  la : Option Addr
  ll : Nat
  lc : Nat
  lv : List Value
  ta : Option Addr
  tl : Nat
  tc : Nat

structure OI (i : Nat) (x : OX) : Prop where
  v0 : Sane i x.e0
  v1 : Sane i x.e1
  d0 : Dir x.e0 x.e1 x.s0
  d1 : Dir x.e1 x.e0 x.s1
  len : x.s0.length + x.s1.length ≤ i
  t0 : ∀ b ∈ x.s0, b.length = 2
  t1 : ∀ b ∈ x.s1, b.length = 2
  link : ∀ p ∈ x.L, (p.2 = 1 ∧ PktOk p.1 x.s0 x.e0) ∨ (p.2 = 0 ∧ PktOk p.1 x.s1 x.e1)
  ll : x.L.length ≤ 16 * i

def oL (q0 q1 eb sb gb : Nat) (x : OX) : List HProp :=
  [endR q0 x.e0, endR q1 x.e1, sl true 33 1 (some ⟨eb, 0, none⟩) 2 2 [.pointer (some ⟨q0, 0, none⟩), .pointer (some ⟨q1, 0, none⟩)],
   sl true 42 1 (some ⟨sb, 0, none⟩) 2 2 [.slice x.sa0 x.sl0 x.sc0, .slice x.sa1 x.sl1 x.sc1], sl true 3 1 (some ⟨gb, 0, none⟩) 2 2 [.int .i64 x.e0.delivered, .int .i64 x.e1.delivered],
   sl true 31 1 x.sa0 x.sl0 x.sc0 x.sv0, allR (byt 5 false) x.sv0 x.s0, sl true 31 1 x.sa1 x.sl1 x.sc1 x.sv1, allR (byt 5 false) x.sv1 x.s1,
   sl true 44 3 x.la x.ll x.lc (pktC (x.L.map (·.1)) x.lv), allR (byt 5 false) x.lv (x.L.map (·.1.b)), sl true 3 1 x.ta x.tl x.tc (x.L.map fun p => .int .i64 p.2)]

theorem OI.mono {i : Nat} {x : OX} (h : OI i x) : OI (i + 1) x :=
  ⟨h.v0.mono rfl (by omega), h.v1.mono rfl (by omega), h.d0, h.d1, by have := h.len; omega, h.t0, h.t1, h.link, by have := h.ll; omega⟩
theorem OI.start {w0 w1 : Int} (h0 : 1 ≤ w0 ∧ w0 ≤ 16) (h1 : 1 ≤ w1 ∧ w1 ≤ 16) : OI 0 ⟨newE w0, newE w1, [], [], [], none, 0, 0, [], none, 0, 0, [], none, 0, 0, [], none, 0, 0⟩ :=
  ⟨⟨h0, by simp [newE]⟩, ⟨h1, by simp [newE]⟩, ⟨0, 0, rfl, rfl, by omega, by simp, by simp [newE], by simp [newE]⟩, ⟨0, 0, rfl, rfl, by omega, by simp, by simp [newE], by simp [newE]⟩, by simp, by simp, by simp, by simp, by simp⟩
theorem elem22 : ElemT Try.prog 22 3 1 8 := ⟨Try.underlying22, ⟨Try.t3, _, by kernel_rfl, rfl, rfl, rfl, rfl⟩⟩
theorem tdivNat (a b : Nat) : (a : Int).tdiv b = ((a / b : Nat) : Int) := rfl
theorem tmodNat (a b : Nat) : (a : Int).tmod b = ((a % b : Nat) : Int) := rfl
theorem tdiv8 (i : Int) (h : -9223372036854775808 ≤ i ∧ i ≤ 9223372036854775807) : -9223372036854775808 ≤ i.tdiv 8 ∧ i.tdiv 8 ≤ 9223372036854775807 := by
  rw [tdiv_eq_if]
  split <;> omega
/-- The packets so far, and j of those that are put on the way to t. -/
def onWay (L : List (Pkt × Nat)) (ps : List Pkt) (t j : Nat) : List (Pkt × Nat) := L ++ (ps.take j).map (·, t)
theorem onWay_zero (L : List (Pkt × Nat)) (ps : List Pkt) (t : Nat) : onWay L ps t 0 = L := by simp [onWay]
theorem onWay_succ {L : List (Pkt × Nat)} {ps : List Pkt} {t j : Nat} {p : Pkt} (h : ps[j]? = some p) : onWay L ps t (j + 1) = onWay L ps t j ++ [(p, t)] := by
  simp [onWay, List.take_add_one, h]
theorem onWay_len {L : List (Pkt × Nat)} {ps : List Pkt} {t j : Nat} (h : j ≤ ps.length) : (onWay L ps t j).length = L.length + j := by
  simp [onWay, h]
theorem onWay_mem {L : List (Pkt × Nat)} {ps : List Pkt} {t j : Nat} {p : Pkt × Nat} (h : p ∈ onWay L ps t j) : p ∈ L ∨ (p.1 ∈ ps ∧ p.2 = t) := by
  rcases List.mem_append.1 h with h | h
  · exact .inl h
  · obtain ⟨q, hq, rfl⟩ := List.mem_map.1 h
    exact .inr ⟨List.mem_of_mem_take hq, rfl⟩
theorem u8wrap4 {i : Nat} : IntKind.u8.wrap (i : Int) = ((UInt8.ofNat i).toNat : Int) := by
  simp [IntKind.wrap, IntKind.signed, IntKind.bits]
set_option maxRecDepth 20000 in
set_option maxHeartbeats 1000000 in
theorem sameBytes_spec (p1 p2 : Bool) (ad1 ad2 : Option Addr) (len1 cap1 len2 cap2 : Nat) (xs ys : List UInt8) (hlen : len1 ≤ 140737488355328) :
    Triple Try.prog 24 #[.slice ad1 len1 cap1, .slice ad2 len2 cap2] [sl p1 5 1 ad1 len1 cap1 (xs.map bv), sl p2 5 1 ad2 len2 cap2 (ys.map bv)] (Unit) (fun _ => True) (fun _ => .bool (decide (xs = ys))) (fun _ => [sl p1 5 1 ad1 len1 cap1 (xs.map bv), sl p2 5 1 ad2 len2 cap2 (ys.map bv)]) := by
  refine Triple.of_body (args := [.slice ad1 len1 cap1, .slice ad2 len2 cap2]) Try.func24 rfl Try.ntmps24 (by simp) (fun g F => ?_)
  dsimp only [numb, List.cons_append, List.nil_append]
  refine WK.know (fun w s => And.intro (Sat.slLen (s.sel1 .here)) (Sat.slLen (s.sel1 (.there .here)))) (fun hlen2 => ?_)
  obtain ⟨⟨hx1, -⟩, ⟨hy1, -⟩⟩ := hlen2
  simp only [Nat.mul_one, List.length_map] at hx1 hy1
  refine WK.seq ?_
  refine WK.region ?_
  refine WL.yld (wanted_plain (by rfl)) (yld_assign (by rfl)) (by rfl) (by decide) ?_
  refine WL.done ?_
  refine WK.seq ?_
  refine WK.seq ?_
  refine WK.region ?_
  refine WL.yld (wanted_plain (by rfl)) (yld_move (by rfl)) (by rfl) (by decide) ?_
  refine WL.yld (wanted_plain (by rfl)) (yld_len (by rfl) (by exact Try.runUnderlying31)) (by rfl) (by decide) ?_
  refine WL.yld (wanted_plain (by rfl)) (yld_move (by rfl)) (by rfl) (by decide) ?_
  refine WL.yld (wanted_plain (by rfl)) (yld_len (by rfl) (by exact Try.runUnderlying31)) (by rfl) (by decide) ?_
  refine WL.yld (wanted_plain (by rfl)) (yld_neq (by rfl) (by rfl)) (by rfl) (by decide) ?_
  refine WL.done ?_
  refine WK.cond (by rfl) (fun hc10 => ?_) (fun hc10 => ?_)
  · skip
    have hc10 := of_decide_eq_true hc10
    refine WK.seq ?_
    refine WK.region ?_
    refine WL.yld (wanted_plain (by rfl)) (yld_assign (by rfl)) (by rfl) (by decide) ?_
    refine WL.done ?_
    refine WK.ret ?_
    repeat (first | refine RQ.block ?_ | refine RQ.then_ ?_)
    refine RQ.body (results1 (by rfl) (by rfl)) (fun w s => ?_)
    refine ⟨(), trivial, ?_, s⟩
    rw [decide_eq_false (fun h => by subst h; omega)]
  · skip
    have hc10 := of_decide_eq_false hc10
    refine WK.skip ?_
    refine WK.seq ?_
    refine WK.seq ?_
    refine WK.region ?_
    refine WL.yld (wanted_plain (by rfl)) (yld_assign (by rfl)) (by rfl) (by decide) ?_
    refine WL.done ?_
    refine WK.block ?_
    refine WK.loop (ι := Nat) (fun i => i ≤ len1 ∧ xs.take i = ys.take i) (fun i => [(0, .slice ad1 len1 cap1), (1, .slice ad2 len2 cap2), (5, .int .i64 (i : Int))]) (fun i => sl p1 5 1 ad1 len1 cap1 (xs.map bv) :: sl p2 5 1 ad2 len2 cap2 (ys.map bv) :: F) (fun i => len1 - i) (0) (⟨Nat.zero_le _, rfl⟩) (by repeat (first | exact KK.nil | refine KK.cons (by first | rfl | (simp; done)) ?_)) (by repeat (first | exact SelL.nil | exact SelL.self | apply SelL.cons | exact Sel.here | apply Sel.there | apply SelL.skip)) ?_
    rintro i ⟨hi, heq⟩ N hN
    refine WK.seq ?_
    refine WK.seq ?_
    refine WK.region ?_
    refine WL.yld (wanted_plain (by rfl)) (yld_move (by rfl)) (by rfl) (by decide) ?_
    refine WL.yld (wanted_plain (by rfl)) (yld_move (by rfl)) (by rfl) (by decide) ?_
    refine WL.yld (wanted_plain (by rfl)) (yld_len (by rfl) (by exact Try.runUnderlying31)) (by rfl) (by decide) ?_
    refine WL.yld (wanted_plain (by rfl)) (yld_lss (by rfl) (by rfl)) (by rfl) (by decide) ?_
    refine WL.done ?_
    refine WK.cond (by rfl) (fun hc14 => ?_) (fun hc14 => ?_)
    · skip
      have hc14 := of_decide_eq_true hc14
      obtain ⟨x, hx⟩ : ∃ x, xs[i]? = some x := ⟨_, List.getElem?_eq_getElem (by omega)⟩
      obtain ⟨y, hy⟩ : ∃ y, ys[i]? = some y := ⟨_, List.getElem?_eq_getElem (by omega)⟩
      refine WK.skip ?_
      refine WK.seq ?_
      refine WK.block ?_
      refine WK.seq ?_
      refine WK.drawnQ (by kernel_rfl) [(0, 0), (1, 0), (2, 0), (3, 0), (4, 0), (5, 0), (6, 0), (7, 0), (8, 0)] (by kernel_rfl) (by kernel_rfl) (by kernel_rfl) ?_
      refine WO.yld (by rfl) (wanted_plain (by rfl)) (yld_move (by rfl)) (by rfl) (by decide) (by repeat (first | exact SelL.nil | exact SelL.self | apply SelL.cons | exact Sel.here | apply Sel.there | apply SelL.skip)) ?_
      refine WO.yld (by rfl) (wanted_plain (by rfl)) (yld_move (by rfl)) (by rfl) (by decide) (by repeat (first | exact SelL.nil | exact SelL.self | apply SelL.cons | exact Sel.here | apply Sel.there | apply SelL.skip)) ?_
      refine WO.yld (by rfl) (wanted_plain (by rfl)) (yld_indexAddrS (by rfl) (by rfl) (by exact Try.runUnderlying31) (by exact Try.sizeOf5) (by repeat (first | exact .here | apply Sel.there)) (i) (by first | rfl | omega) (by omega) (by omega) (by exact Nat.mul_one _)) (by rfl) (by decide) (by repeat (first | exact SelL.nil | exact SelL.self | apply SelL.cons | exact Sel.here | apply Sel.there | apply SelL.skip)) ?_
      refine WO.yld (by rfl) (wanted_plain (by rfl)) (yld_loadS (by rfl) (by exact Try.isAgg5) (by repeat (first | exact .here | apply Sel.there)) (by rw [List.getElem?_map, hx]; rfl)) (by rfl) (by decide) (by repeat (first | exact SelL.nil | exact SelL.self | apply SelL.cons | exact Sel.here | apply Sel.there | apply SelL.skip)) ?_
      refine WO.yld (by rfl) (wanted_plain (by rfl)) (yld_move (by rfl)) (by rfl) (by decide) (by repeat (first | exact SelL.nil | exact SelL.self | apply SelL.cons | exact Sel.here | apply Sel.there | apply SelL.skip)) ?_
      refine WO.yld (by rfl) (wanted_plain (by rfl)) (yld_move (by rfl)) (by rfl) (by decide) (by repeat (first | exact SelL.nil | exact SelL.self | apply SelL.cons | exact Sel.here | apply Sel.there | apply SelL.skip)) ?_
      refine WO.yld (by rfl) (wanted_plain (by rfl)) (yld_indexAddrS (by rfl) (by rfl) (by exact Try.runUnderlying31) (by exact Try.sizeOf5) (by repeat (first | exact .here | apply Sel.there)) (i) (by first | rfl | omega) (by omega) (by omega) (by exact Nat.mul_one _)) (by rfl) (by decide) (by repeat (first | exact SelL.nil | exact SelL.self | apply SelL.cons | exact Sel.here | apply Sel.there | apply SelL.skip)) ?_
      refine WO.yld (by rfl) (wanted_plain (by rfl)) (yld_loadS (by rfl) (by exact Try.isAgg5) (by repeat (first | exact .here | apply Sel.there)) (by rw [List.getElem?_map, hy]; rfl)) (by rfl) (by decide) (by repeat (first | exact SelL.nil | exact SelL.self | apply SelL.cons | exact Sel.here | apply Sel.there | apply SelL.skip)) ?_
      refine WO.yld (by rfl) (wanted_plain (by rfl)) (yld_neq (by rfl) (by rfl)) (by rfl) (by decide) (by repeat (first | exact SelL.nil | exact SelL.self | apply SelL.cons | exact Sel.here | apply Sel.there | apply SelL.skip)) ?_
      refine WO.done ?_
      refine WK.cond (by rfl) (fun hc25 => ?_) (fun hc25 => ?_)
      · skip
        have hc25 := of_decide_eq_true hc25
        refine WK.seq ?_
        refine WK.region ?_
        refine WL.yld (wanted_plain (by rfl)) (yld_assign (by rfl)) (by rfl) (by decide) ?_
        refine WL.done ?_
        refine WK.ret ?_
        repeat (first | refine RQ.block ?_ | refine RQ.then_ ?_)
        refine RQ.body (results1 (by rfl) (by rfl)) (fun w s => ?_)
        refine ⟨(), trivial, ?_, s⟩
        rw [decide_eq_false (fun h => by subst h; rw [hx] at hy; cases hy; exact hc25 rfl)]
      · skip
        have hc25 := of_decide_eq_false hc25
        refine WK.skip ?_
        refine WK.endBlock ?_
        refine WK.region ?_
        refine WL.yld (wanted_plain (by rfl)) (yld_move (by rfl)) (by rfl) (by decide) ?_
        refine WL.yld (wanted_plain (by rfl)) (yld_add (by rfl) (by rfl) (by first | exact w64 (by omega) (by omega) | rfl)) (by rfl) (by decide) ?_
        refine WL.yld (wanted_plain (by rfl)) (yld_assign (by rfl)) (by rfl) (by decide) ?_
        refine WL.done ?_
        have hcc : x = y := UInt8.toNat_inj.1 (by omega)
        exact WK.next hN (i + 1) ⟨by omega, by rw [List.take_add_one, List.take_add_one, heq, hx, hy, hcc]⟩ (by omega) (by repeat (first | exact KK.nil | refine KK.cons (by first | rfl | (simp; done)) ?_)) (by repeat (first | exact SelL.nil | exact SelL.self | apply SelL.cons | exact Sel.here | apply Sel.there | apply SelL.skip))
    · skip
      have hc14 := of_decide_eq_false hc14
      refine WK.exit ?_
      repeat (first | refine XQ.then_ ?_ | refine XQ.block (by rfl) ?_)
      refine XQ.here ?_
      refine WK.seq ?_
      refine WK.region ?_
      refine WL.yld (wanted_plain (by rfl)) (yld_assign (by rfl)) (by rfl) (by decide) ?_
      refine WL.done ?_
      refine WK.ret ?_
      repeat (first | refine RQ.block ?_ | refine RQ.then_ ?_)
      refine RQ.body (results1 (by rfl) (by rfl)) (fun w s => ?_)
      obtain rfl : i = len1 := by omega
      refine ⟨(), trivial, ?_, s⟩
      rw [decide_eq_true (by rw [List.take_of_length_le (by omega), List.take_of_length_le (by omega)] at heq; exact heq)]
set_option maxRecDepth 20000 in
set_option maxHeartbeats 4000000 in
theorem order_spec (window : Int) (hw : -9223372036854775808 ≤ window ∧ window ≤ 9223372036854775807) (a1 : Option Addr) (len1 cap1 : Nat) (zs : List Int) (hz : zs.length = len1) (hwf : ∀ z ∈ zs, -9223372036854775808 ≤ z ∧ z ≤ 9223372036854775807) :
    Triple Try.prog 4 #[.int .i64 window, .slice a1 len1 cap1] [slr 1 a1 len1 (zs.map (Value.int .i64))] (Unit) (fun _ => True) (fun _ => .bool true) (fun _ => []) := by
  refine Triple.of_body (args := [.int .i64 window, .slice a1 len1 cap1]) Try.func4 rfl Try.ntmps4 (by simp) (fun g F => ?_)
  dsimp only [numb, List.cons_append, List.nil_append]
  have hW0 := aroundM_range window 16 (by omega)
  have hW1 := aroundM_range (window.tdiv 16) 16 (by omega)
  refine WK.seq ?_
  refine WK.region ?_
  refine WL.yld (wanted_plain (by rfl)) (yld_assign (by rfl)) (by rfl) (by decide) ?_
  refine WL.done ?_
  refine WK.seq ?_
  refine WK.region ?_
  refine WL.yld (wanted_plain (by rfl)) (yld_move (by rfl)) (by rfl) (by decide) ?_
  refine WL.eff (wanted_plain (by rfl)) (eff_call (by exact Try.call10) (by repeat (first | exact Evs.nil | apply Evs.cons | rfl)) (by repeat (first | exact SelL.nil | exact SelL.self | apply SelL.cons | exact Sel.here | apply Sel.there | apply SelL.skip)) (ends_spec window hw)) (by rfl) (by decide) ?_
  rintro ⟨eb, q0, q1⟩ -
  try dsimp only
  refine WL.yld (wanted_plain (by rfl)) (yld_assign (by rfl)) (by rfl) (by decide) ?_
  refine WL.done ?_
  refine WK.seq ?_
  refine WK.seq ?_
  refine WK.region ?_
  refine WL.yld (wanted_plain (by rfl)) (yld_move (by rfl)) (by rfl) (by decide) ?_
  refine WL.yld (wanted_plain (by rfl)) (yld_eqlNilS (by rfl) (by rfl) (by exact Try.runUnderlying23)) (by rfl) (by decide) ?_
  refine WL.done ?_
  refine WK.cond (by rfl) (fun hc24 => ?_) (fun hc24 => ?_)
  · skip
    first | omega | exact absurd rfl hc24 | (simp at hc24; done) | (exact absurd hc24 (by decide))
  · skip
    refine WK.skip ?_
    refine WK.seq ?_
    refine WK.region ?_
    refine WL.eff (wanted_plain (by rfl)) (eff_mkSliceN (by exact Try.runUnderlying53) (by exact Try.sizeOf42) (by exact Try.zeroValue42) (by repeat (first | exact PrtsN.nil | apply PrtsN.cons | rfl)) (by decide) (by rfl) (by rfl) (by rfl) (by rfl)) (by rfl) (by decide) ?_
    rintro b25 -
    try dsimp only [List.cons_append, List.nil_append]
    try dsimp only
    refine WL.yld (wanted_plain (by rfl)) (yld_assign (by rfl)) (by rfl) (by decide) ?_
    refine WL.done ?_
    refine WK.seq ?_
    refine WK.region ?_
    refine WL.eff (wanted_plain (by rfl)) (eff_mkSliceN (by exact Try.runUnderlying22) (by exact Try.sizeOf3) (by exact Try.zeroValue3) (by repeat (first | exact PrtsN.nil | apply PrtsN.cons | rfl)) (by decide) (by rfl) (by rfl) (by rfl) (by rfl)) (by rfl) (by decide) ?_
    rintro b26 -
    try dsimp only [List.cons_append, List.nil_append]
    try dsimp only
    refine WL.yld (wanted_plain (by rfl)) (yld_assign (by rfl)) (by rfl) (by decide) ?_
    refine WL.done ?_
    refine WK.seq ?_
    refine WK.region ?_
    refine WL.yld (wanted_plain (by rfl)) (yld_assign (by rfl)) (by rfl) (by decide) ?_
    refine WL.done ?_
    refine WK.seq ?_
    refine WK.region ?_
    refine WL.yld (wanted_plain (by rfl)) (yld_assign (by rfl)) (by rfl) (by decide) ?_
    refine WL.done ?_
    refine WK.seq ?_
    refine WK.seq ?_
    refine WK.region ?_
    refine WL.yld (wanted_plain (by rfl)) (yld_assign (by rfl)) (by rfl) (by decide) ?_
    refine WL.done ?_
    refine WK.block ?_
    refine WK.sat (fun w s => ((((((s.nilSl true 31 1).allNil (Rl := byt 5 false)).nilSl true 31 1).allNil (Rl := byt 5 false)).nilSl true 44 3).allNil (Rl := byt 5 false)).nilSl true 3 1) ?_
    refine WK.loop (ι := Nat × OX) (fun p => p.1 ≤ 80 ∧ OI p.1 p.2) (fun p => [(1, .slice a1 len1 cap1), (5, .slice (some ⟨eb, 0, none⟩) 2 2), (6, .slice (some ⟨b25, 0, none⟩) 2 2), (7, .slice (some ⟨b26, 0, none⟩) 2 2), (8, .slice p.2.la p.2.ll p.2.lc), (9, .slice p.2.ta p.2.tl p.2.tc), (10, .int .i64 (p.1 : Int))]) (fun p => oL q0 q1 eb b25 b26 p.2 ++ (slr 1 a1 len1 (zs.map (Value.int .i64)) :: F)) (fun p => 80 - p.1) ((0, ⟨newE (1 + aroundM window 16), newE (1 + aroundM (window.tdiv 16) 16), [], [], [], none, 0, 0, [], none, 0, 0, [], none, 0, 0, [], none, 0, 0⟩)) (⟨Nat.zero_le _, OI.start (by omega) (by omega)⟩) (by repeat (first | exact KK.nil | refine KK.cons (by first | rfl | (simp; done)) ?_)) (by (try dsimp only [oL, List.cons_append, List.nil_append]); exact (by repeat (first | exact SelL.nil | exact SelL.self | apply SelL.cons | exact Sel.here | apply Sel.there | apply SelL.skip))) ?_
    rintro ⟨i, ⟨e0, e1, s0, s1, L, sa0, sl0, sc0, sv0, sa1, sl1, sc1, sv1, la, ll, lc, lv, ta, tl, tc⟩⟩ ⟨hi, hI⟩ N hN
    dsimp only at hi hI ⊢
    dsimp only [oL, List.cons_append, List.nil_append]
    obtain ⟨v0, v1, d0, d1, hlen, t0, t1, hlink, hll⟩ := (id hI)
    dsimp only at v0 v1 d0 d1 hlen t0 t1 hlink hll
    refine WK.know (fun w s => And.intro (Sat.slLen (s.sel1 (A := sl true 31 1 sa0 sl0 sc0 sv0) (by repeat (first | exact .here | apply Sel.there)))) (And.intro (Sat.allLen (s.sel1 (A := allR (byt 5 false) sv0 s0) (by repeat (first | exact .here | apply Sel.there)))) (And.intro (Sat.slLen (s.sel1 (A := sl true 31 1 sa1 sl1 sc1 sv1) (by repeat (first | exact .here | apply Sel.there)))) (And.intro (Sat.allLen (s.sel1 (A := allR (byt 5 false) sv1 s1) (by repeat (first | exact .here | apply Sel.there)))) (And.intro (Sat.slLen (s.sel1 (A := sl true 44 3 la ll lc (pktC (L.map (·.1)) lv)) (by repeat (first | exact .here | apply Sel.there)))) (And.intro (Sat.allLen (s.sel1 (A := allR (byt 5 false) lv (L.map (·.1.b))) (by repeat (first | exact .here | apply Sel.there)))) (Sat.slLen (s.sel1 (A := sl true 3 1 ta tl tc (L.map fun p => .int .i64 p.2)) (by repeat (first | exact .here | apply Sel.there)))))))))) (fun hkn => ?_)
    obtain ⟨⟨n1, -⟩, n2, ⟨n3, -⟩, n4, ⟨n5, -⟩, n6, ⟨n7, -⟩⟩ := hkn
    have n8 : lv.length = L.length := by simpa using n6
    rw [pktC_len (by simp [n8])] at n5
    simp only [Nat.mul_one, List.length_map] at n1 n3 n5 n7
    have n9 : L.length = ll := by omega
    refine WK.seq ?_
    refine WK.seq ?_
    refine WK.region ?_
    refine WL.yld (wanted_plain (by rfl)) (yld_move (by rfl)) (by rfl) (by decide) ?_
    refine WL.yld (wanted_plain (by rfl)) (yld_move (by rfl)) (by rfl) (by decide) ?_
    refine WL.yld (wanted_plain (by rfl)) (yld_len (by rfl) (by exact Try.runUnderlying22)) (by rfl) (by decide) ?_
    refine WL.yld (wanted_plain (by rfl)) (yld_lss (by rfl) (by rfl)) (by rfl) (by decide) ?_
    refine WL.yld (wanted_plain (by rfl)) (yld_move (by rfl)) (by rfl) (by decide) ?_
    refine WL.split (d := 31) (by rfl) (fun hc31 => ?_) (fun hc31 => ?_)
    · skip
      have hc31 := of_decide_eq_true hc31
      refine WL.yld (wanted_some (by rfl) (by rfl) (by rfl)) (yld_move (by rfl)) (by rfl) (by decide) ?_
      refine WL.yld (wanted_some (by rfl) (by rfl) (by rfl)) (yld_lss (by rfl) (by rfl)) (by rfl) (by decide) ?_
      refine WL.yld (wanted_plain (by rfl)) (yld_pick_true (by rfl) (by rfl)) (by rfl) (by decide) ?_
      refine WL.done ?_
      refine WK.cond (by rfl) (fun hc34 => ?_) (fun hc34 => ?_)
      · skip
        have hc34 := of_decide_eq_true hc34
        refine WK.skip ?_
        refine WK.seq ?_
        refine WK.block ?_
        refine WK.seq ?_
        obtain ⟨z, hzi⟩ : ∃ z, zs[i]? = some z := ⟨_, List.getElem?_eq_getElem (by omega)⟩
        refine WK.region ?_
        refine WL.yld (wanted_plain (by rfl)) (yld_move (by rfl)) (by rfl) (by decide) ?_
        refine WL.yld (wanted_plain (by rfl)) (yld_move (by rfl)) (by rfl) (by decide) ?_
        refine WL.yld (wanted_plain (by rfl)) (yld_indexAddrR (by rfl) (by rfl) (by exact Try.runUnderlying22) (by exact Try.sizeOf3) (by repeat (first | exact .here | apply Sel.there)) (by rfl) (i) (by first | rfl | omega) (by omega) (by omega) (by exact Nat.mul_one _)) (by rfl) (by decide) ?_
        refine WL.yld (wanted_plain (by rfl)) (yld_loadR (by rfl) (by exact Try.isAgg3) (by repeat (first | exact .here | apply Sel.there)) (by rw [List.getElem?_map, hzi]; rfl)) (by rfl) (by decide) ?_
        refine WL.yld (wanted_plain (by rfl)) (yld_quo (by rfl) (by rfl) (by omega) (by exact IntWalk.i64_quo' z 8 ⟨(hwf z (List.mem_of_getElem? hzi)).1, (hwf z (List.mem_of_getElem? hzi)).2, by omega⟩)) (by rfl) (by decide) ?_
        refine WL.eff (wanted_plain (by rfl)) (eff_call (by exact Try.call12) (by repeat (first | exact Evs.nil | apply Evs.cons | rfl)) (by repeat (first | exact SelL.nil | exact SelL.self | apply SelL.cons | exact Sel.here | apply Sel.there | apply SelL.skip)) (around_spec (z.tdiv 8) 1073741824 (tdiv8 z (hwf z (List.mem_of_getElem? hzi))) (by omega))) (by rfl) (by decide) ?_
        rintro _ -
        have h42 := aroundM_range (z.tdiv 8) 1073741824 (by omega)
        obtain ⟨nn, hnn⟩ : ∃ N : Nat, aroundM (z.tdiv 8) 1073741824 = (N : Int) := ⟨(aroundM (z.tdiv 8) 1073741824).toNat, by omega⟩
        rw [hnn] at h42 ⊢
        try dsimp only
        refine WL.yld (wanted_plain (by rfl)) (yld_assign (by rfl)) (by rfl) (by decide) ?_
        refine WL.done ?_
        refine WK.seq ?_
        refine WK.region ?_
        refine WL.yld (wanted_plain (by rfl)) (yld_move (by rfl)) (by rfl) (by decide) ?_
        refine WL.yld (wanted_plain (by rfl)) (yld_rem (by rfl) (by rfl) (by omega) (by exact tmodNat nn 2)) (by rfl) (by decide) ?_
        refine WL.yld (wanted_plain (by rfl)) (yld_assign (by rfl)) (by rfl) (by decide) ?_
        refine WL.done ?_
        refine WK.seq ?_
        refine WK.seq ?_
        refine WK.region ?_
        refine WL.yld (wanted_plain (by rfl)) (yld_move (by rfl)) (by rfl) (by decide) ?_
        refine WL.yld (wanted_plain (by rfl)) (yld_move (by rfl)) (by rfl) (by decide) ?_
        refine WL.yld (wanted_plain (by rfl)) (yld_indexAddrR (by rfl) (by rfl) (by exact Try.runUnderlying22) (by exact Try.sizeOf3) (by repeat (first | exact .here | apply Sel.there)) (by rfl) (i) (by first | rfl | omega) (by omega) (by omega) (by exact Nat.mul_one _)) (by rfl) (by decide) ?_
        refine WL.yld (wanted_plain (by rfl)) (yld_loadR (by rfl) (by exact Try.isAgg3) (by repeat (first | exact .here | apply Sel.there)) (by rw [List.getElem?_map, hzi]; rfl)) (by rfl) (by decide) ?_
        refine WL.eff (wanted_plain (by rfl)) (eff_call (by exact Try.call12) (by repeat (first | exact Evs.nil | apply Evs.cons | rfl)) (by repeat (first | exact SelL.nil | exact SelL.self | apply SelL.cons | exact Sel.here | apply Sel.there | apply SelL.skip)) (around_spec z 8 (hwf z (List.mem_of_getElem? hzi)) (by omega))) (by rfl) (by decide) ?_
        rintro _ -
        generalize aroundM z 8 = c
        try dsimp only
        refine WL.done ?_
        refine WK.cut (ι := OX) (fun x => OI (i + 1) x) (fun x => [(1, .slice a1 len1 cap1), (5, .slice (some ⟨eb, 0, none⟩) 2 2), (6, .slice (some ⟨b25, 0, none⟩) 2 2), (7, .slice (some ⟨b26, 0, none⟩) 2 2), (8, .slice x.la x.ll x.lc), (9, .slice x.ta x.tl x.tc), (10, .int .i64 (i : Int))]) (fun x => oL q0 q1 eb b25 b26 x ++ (slr 1 a1 len1 (zs.map (Value.int .i64)) :: F)) ?_ ?_
        · skip
          rintro ⟨e0, e1, s0, s1, L, sa0, sl0, sc0, sv0, sa1, sl1, sc1, sv1, la, ll, lc, lv, ta, tl, tc⟩ hJ
          dsimp only [oL, List.cons_append, List.nil_append]
          obtain ⟨v0, v1, d0, d1, hlen, t0, t1, hlink, hll⟩ := (id hJ)
          dsimp only at v0 v1 d0 d1 hlen t0 t1 hlink hll
          refine WK.know (fun w s => And.intro (Sat.slLen (s.sel1 (A := sl true 31 1 sa0 sl0 sc0 sv0) (by repeat (first | exact .here | apply Sel.there)))) (And.intro (Sat.allLen (s.sel1 (A := allR (byt 5 false) sv0 s0) (by repeat (first | exact .here | apply Sel.there)))) (And.intro (Sat.slLen (s.sel1 (A := sl true 31 1 sa1 sl1 sc1 sv1) (by repeat (first | exact .here | apply Sel.there)))) (And.intro (Sat.allLen (s.sel1 (A := allR (byt 5 false) sv1 s1) (by repeat (first | exact .here | apply Sel.there)))) (And.intro (Sat.slLen (s.sel1 (A := sl true 44 3 la ll lc (pktC (L.map (·.1)) lv)) (by repeat (first | exact .here | apply Sel.there)))) (And.intro (Sat.allLen (s.sel1 (A := allR (byt 5 false) lv (L.map (·.1.b))) (by repeat (first | exact .here | apply Sel.there)))) (Sat.slLen (s.sel1 (A := sl true 3 1 ta tl tc (L.map fun p => .int .i64 p.2)) (by repeat (first | exact .here | apply Sel.there)))))))))) (fun hkn => ?_)
          obtain ⟨⟨n1, -⟩, n2, ⟨n3, -⟩, n4, ⟨n5, -⟩, n6, ⟨n7, -⟩⟩ := hkn
          have n8 : lv.length = L.length := by simpa using n6
          rw [pktC_len (by simp [n8])] at n5
          simp only [Nat.mul_one, List.length_map] at n1 n3 n5 n7
          have n9 : L.length = ll := by omega
          refine WK.seq ?_
          refine WK.region ?_
          refine WL.yld (wanted_plain (by rfl)) (yld_assign (by rfl)) (by rfl) (by decide) ?_
          refine WL.done ?_
          refine WK.block ?_
          refine WK.loop (ι := Nat) (fun j => j ≤ 2) (fun j => [(1, .slice a1 len1 cap1), (5, .slice (some ⟨eb, 0, none⟩) 2 2), (6, .slice (some ⟨b25, 0, none⟩) 2 2), (7, .slice (some ⟨b26, 0, none⟩) 2 2), (8, .slice la ll lc), (9, .slice ta tl tc), (10, .int .i64 (i : Int)), (20, .int .i64 (j : Int))]) (fun j => endR q0 e0 :: endR q1 e1 :: sl true 33 1 (some ⟨eb, 0, none⟩) 2 2 [.pointer (some ⟨q0, 0, none⟩), .pointer (some ⟨q1, 0, none⟩)] :: sl true 42 1 (some ⟨b25, 0, none⟩) 2 2 [.slice sa0 sl0 sc0, .slice sa1 sl1 sc1] :: sl true 3 1 (some ⟨b26, 0, none⟩) 2 2 [.int .i64 e0.delivered, .int .i64 e1.delivered] :: sl true 31 1 sa0 sl0 sc0 sv0 :: allR (byt 5 false) sv0 s0 :: sl true 31 1 sa1 sl1 sc1 sv1 :: allR (byt 5 false) sv1 s1 :: sl true 44 3 la ll lc (pktC (L.map (·.1)) lv) :: allR (byt 5 false) lv (L.map (·.1.b)) :: sl true 3 1 ta tl tc (L.map fun p => .int .i64 p.2) :: slr 1 a1 len1 (zs.map (Value.int .i64)) :: F) (fun j => 2 - j) (0) (Nat.zero_le _) (by repeat (first | exact KK.nil | refine KK.cons (by first | rfl | (simp; done)) ?_)) (by repeat (first | exact SelL.nil | exact SelL.self | apply SelL.cons | exact Sel.here | apply Sel.there | apply SelL.skip)) ?_
          rintro j hj N4 hN4
          refine WK.seq ?_
          refine WK.seq ?_
          refine WK.region ?_
          refine WL.yld (wanted_plain (by rfl)) (yld_move (by rfl)) (by rfl) (by decide) ?_
          refine WL.yld (wanted_plain (by rfl)) (yld_lss (by rfl) (by rfl)) (by rfl) (by decide) ?_
          refine WL.done ?_
          refine WK.cond (by rfl) (fun hc163 => ?_) (fun hc163 => ?_)
          · skip
            have hc163 := of_decide_eq_true hc163
            obtain rfl | rfl : j = 0 ∨ j = 1 := by omega
            · skip
              obtain ⟨A, D, a1, a2, a3, a4, a5, a6⟩ := id d0
              have a7 : e0.waiting.length = sl0 - A := by rw [a5, List.length_drop]; omega
              refine WK.skip ?_
              refine WK.seq ?_
              refine WK.block ?_
              refine WK.seq ?_
              refine WK.drawn (by kernel_rfl) [(0, 0), (1, 0), (2, 0), (3, 0), (5, 0), (6, 0), (7, 0), (8, 0), (9, 0), (4, 1), (10, 0), (11, 0), (12, 0), (13, 0), (14, 0), (15, 0), (17, 0), (18, 0), (19, 0), (20, 0), (21, 0), (22, 0), (23, 0), (24, 0), (25, 0), (26, 0), (27, 0), (16, 1), (28, 0), (29, 0)] [sl true 33 1 (some ⟨eb, 0, none⟩) 2 2 [.pointer (some ⟨q0, 0, none⟩), .pointer (some ⟨q1, 0, none⟩)], sl true 42 1 (some ⟨b25, 0, none⟩) 2 2 [.slice sa0 sl0 sc0, .slice sa1 sl1 sc1], sl true 3 1 (some ⟨b26, 0, none⟩) 2 2 [.int .i64 e0.delivered, .int .i64 e1.delivered]] (by kernel_rfl) (by kernel_rfl) (by kernel_rfl) ?_
              refine WO.yld (by rfl) (wanted_plain (by rfl)) (yld_move (by rfl)) (by rfl) (by decide) (by repeat (first | exact SelL.nil | exact SelL.self | apply SelL.cons | exact Sel.here | apply Sel.there | apply SelL.skip)) ?_
              refine WO.yld (by rfl) (wanted_plain (by rfl)) (yld_move (by rfl)) (by rfl) (by decide) (by repeat (first | exact SelL.nil | exact SelL.self | apply SelL.cons | exact Sel.here | apply Sel.there | apply SelL.skip)) ?_
              refine WO.yld (by rfl) (wanted_plain (by rfl)) (yld_indexAddrS (by rfl) (by rfl) (by exact Try.runUnderlying23) (by exact Try.sizeOf33) (by repeat (first | exact .here | apply Sel.there)) (0) (by first | rfl | omega) (by omega) (by omega) (by exact Nat.mul_one _)) (by rfl) (by decide) (by repeat (first | exact SelL.nil | exact SelL.self | apply SelL.cons | exact Sel.here | apply Sel.there | apply SelL.skip)) ?_
              refine WO.yld (by rfl) (wanted_plain (by rfl)) (yld_loadS (by rfl) (by exact Try.isAgg33) (by repeat (first | exact .here | apply Sel.there)) (by first | rfl | assumption | (simp; done) | (simp [*]; done))) (by rfl) (by decide) (by repeat (first | exact SelL.nil | exact SelL.self | apply SelL.cons | exact Sel.here | apply Sel.there | apply SelL.skip)) ?_
              refine WO.yld (by rfl) (wanted_plain (by rfl)) (yld_move (by rfl)) (by rfl) (by decide) (by repeat (first | exact SelL.nil | exact SelL.self | apply SelL.cons | exact Sel.here | apply Sel.there | apply SelL.skip)) ?_
              refine WO.yld (by rfl) (wanted_plain (by rfl)) (yld_move (by rfl)) (by rfl) (by decide) (by repeat (first | exact SelL.nil | exact SelL.self | apply SelL.cons | exact Sel.here | apply Sel.there | apply SelL.skip)) ?_
              refine WO.yld (by rfl) (wanted_plain (by rfl)) (yld_indexAddrS (by rfl) (by rfl) (by exact Try.runUnderlying53) (by exact Try.sizeOf42) (by repeat (first | exact .here | apply Sel.there)) (0) (by first | rfl | omega) (by omega) (by omega) (by exact Nat.mul_one _)) (by rfl) (by decide) (by repeat (first | exact SelL.nil | exact SelL.self | apply SelL.cons | exact Sel.here | apply Sel.there | apply SelL.skip)) ?_
              refine WO.yld (by rfl) (wanted_plain (by rfl)) (yld_loadS (by rfl) (by exact Try.isAgg42) (by repeat (first | exact .here | apply Sel.there)) (by first | rfl | assumption | (simp; done) | (simp [*]; done))) (by rfl) (by decide) (by repeat (first | exact SelL.nil | exact SelL.self | apply SelL.cons | exact Sel.here | apply Sel.there | apply SelL.skip)) ?_
              refine WO.yld (by rfl) (wanted_plain (by rfl)) (yld_len (by rfl) (by exact Try.runUnderlying42)) (by rfl) (by decide) (by repeat (first | exact SelL.nil | exact SelL.self | apply SelL.cons | exact Sel.here | apply Sel.there | apply SelL.skip)) ?_
              refine WO.eff (by rfl) (wanted_plain (by rfl)) (eff_call (by exact Try.call22) (by repeat (first | exact Evs.nil | apply Evs.cons | rfl)) (by repeat (first | exact SelL.nil | exact SelL.self | apply SelL.cons | exact Sel.here | apply Sel.there | apply SelL.skip)) (waiting_spec q0 e0)) (by rfl) (by decide) (by intro x; repeat (first | exact SelL.nil | exact SelL.self | apply SelL.cons | exact Sel.here | apply Sel.there | apply SelL.skip)) ?_
              rintro _ -
              try dsimp only
              refine WO.yld (by rfl) (wanted_plain (by rfl)) (yld_gtr (by rfl) (by rfl)) (by rfl) (by decide) (by repeat (first | exact SelL.nil | exact SelL.self | apply SelL.cons | exact Sel.here | apply Sel.there | apply SelL.skip)) ?_
              refine WO.yld (by rfl) (wanted_plain (by rfl)) (yld_move (by rfl)) (by rfl) (by decide) (by repeat (first | exact SelL.nil | exact SelL.self | apply SelL.cons | exact Sel.here | apply Sel.there | apply SelL.skip)) ?_
              refine WO.split (d := 177) (by rfl) (fun hc177 => ?_) (fun hc177 => ?_)
              · skip
                have hc177 := of_decide_eq_true hc177
                omega
              · skip
                have hc177 := of_decide_eq_false hc177
                refine WO.yld (by rfl) (wanted_some (by rfl) (by rfl) (by rfl)) (yld_move (by rfl)) (by rfl) (by decide) (by repeat (first | exact SelL.nil | exact SelL.self | apply SelL.cons | exact Sel.here | apply Sel.there | apply SelL.skip)) ?_
                refine WO.yld (by rfl) (wanted_some (by rfl) (by rfl) (by rfl)) (yld_move (by rfl)) (by rfl) (by decide) (by repeat (first | exact SelL.nil | exact SelL.self | apply SelL.cons | exact Sel.here | apply Sel.there | apply SelL.skip)) ?_
                refine WO.yld (by rfl) (wanted_some (by rfl) (by rfl) (by rfl)) (yld_indexAddrS (by rfl) (by rfl) (by exact Try.runUnderlying23) (by exact Try.sizeOf33) (by repeat (first | exact .here | apply Sel.there)) (0) (by first | rfl | omega) (by omega) (by omega) (by exact Nat.mul_one _)) (by rfl) (by decide) (by repeat (first | exact SelL.nil | exact SelL.self | apply SelL.cons | exact Sel.here | apply Sel.there | apply SelL.skip)) ?_
                refine WO.yld (by rfl) (wanted_some (by rfl) (by rfl) (by rfl)) (yld_loadS (by rfl) (by exact Try.isAgg33) (by repeat (first | exact .here | apply Sel.there)) (by first | rfl | assumption | (simp; done) | (simp [*]; done))) (by rfl) (by decide) (by repeat (first | exact SelL.nil | exact SelL.self | apply SelL.cons | exact Sel.here | apply Sel.there | apply SelL.skip)) ?_
                refine WO.yld (by rfl) (wanted_some (by rfl) (by rfl) (by rfl)) (yld_move (by rfl)) (by rfl) (by decide) (by repeat (first | exact SelL.nil | exact SelL.self | apply SelL.cons | exact Sel.here | apply Sel.there | apply SelL.skip)) ?_
                refine WO.yld (by rfl) (wanted_some (by rfl) (by rfl) (by rfl)) (yld_move (by rfl)) (by rfl) (by decide) (by repeat (first | exact SelL.nil | exact SelL.self | apply SelL.cons | exact Sel.here | apply Sel.there | apply SelL.skip)) ?_
                refine WO.yld (by rfl) (wanted_some (by rfl) (by rfl) (by rfl)) (yld_indexAddrS (by rfl) (by rfl) (by exact Try.runUnderlying53) (by exact Try.sizeOf42) (by repeat (first | exact .here | apply Sel.there)) (0) (by first | rfl | omega) (by omega) (by omega) (by exact Nat.mul_one _)) (by rfl) (by decide) (by repeat (first | exact SelL.nil | exact SelL.self | apply SelL.cons | exact Sel.here | apply Sel.there | apply SelL.skip)) ?_
                refine WO.yld (by rfl) (wanted_some (by rfl) (by rfl) (by rfl)) (yld_loadS (by rfl) (by exact Try.isAgg42) (by repeat (first | exact .here | apply Sel.there)) (by first | rfl | assumption | (simp; done) | (simp [*]; done))) (by rfl) (by decide) (by repeat (first | exact SelL.nil | exact SelL.self | apply SelL.cons | exact Sel.here | apply Sel.there | apply SelL.skip)) ?_
                refine WO.yld (by rfl) (wanted_some (by rfl) (by rfl) (by rfl)) (yld_len (by rfl) (by exact Try.runUnderlying42)) (by rfl) (by decide) (by repeat (first | exact SelL.nil | exact SelL.self | apply SelL.cons | exact Sel.here | apply Sel.there | apply SelL.skip)) ?_
                refine WO.yld (by rfl) (wanted_some (by rfl) (by rfl) (by rfl)) (yld_move (by rfl)) (by rfl) (by decide) (by repeat (first | exact SelL.nil | exact SelL.self | apply SelL.cons | exact Sel.here | apply Sel.there | apply SelL.skip)) ?_
                refine WO.yld (by rfl) (wanted_some (by rfl) (by rfl) (by rfl)) (yld_move (by rfl)) (by rfl) (by decide) (by repeat (first | exact SelL.nil | exact SelL.self | apply SelL.cons | exact Sel.here | apply Sel.there | apply SelL.skip)) ?_
                refine WO.yld (by rfl) (wanted_some (by rfl) (by rfl) (by rfl)) (yld_sub (by rfl) (by rfl) (by rfl)) (by rfl) (by decide) (by repeat (first | exact SelL.nil | exact SelL.self | apply SelL.cons | exact Sel.here | apply Sel.there | apply SelL.skip)) ?_
                refine WO.yld (by rfl) (wanted_some (by rfl) (by rfl) (by rfl)) (yld_indexAddrS (by rfl) (by rfl) (by exact Try.runUnderlying22) (by exact Try.sizeOf3) (by repeat (first | exact .here | apply Sel.there)) (1) (by first | rfl | omega) (by omega) (by omega) (by exact Nat.mul_one _)) (by rfl) (by decide) (by repeat (first | exact SelL.nil | exact SelL.self | apply SelL.cons | exact Sel.here | apply Sel.there | apply SelL.skip)) ?_
                refine WO.yld (by rfl) (wanted_some (by rfl) (by rfl) (by rfl)) (yld_loadS (by rfl) (by exact Try.isAgg3) (by repeat (first | exact .here | apply Sel.there)) (by first | rfl | assumption | (simp; done) | (simp [*]; done))) (by rfl) (by decide) (by repeat (first | exact SelL.nil | exact SelL.self | apply SelL.cons | exact Sel.here | apply Sel.there | apply SelL.skip)) ?_
                refine WO.yld (by rfl) (wanted_some (by rfl) (by rfl) (by rfl)) (yld_sub (by rfl) (by rfl) (by first | exact w64 (by omega) (by omega) | rfl)) (by rfl) (by decide) (by repeat (first | exact SelL.nil | exact SelL.self | apply SelL.cons | exact Sel.here | apply Sel.there | apply SelL.skip)) ?_
                refine WO.eff (by rfl) (wanted_some (by rfl) (by rfl) (by rfl)) (eff_call (by exact Try.call22) (by repeat (first | exact Evs.nil | apply Evs.cons | rfl)) (by repeat (first | exact SelL.nil | exact SelL.self | apply SelL.cons | exact Sel.here | apply Sel.there | apply SelL.skip)) (waiting_spec q0 e0)) (by rfl) (by decide) (by intro x; repeat (first | exact SelL.nil | exact SelL.self | apply SelL.cons | exact Sel.here | apply Sel.there | apply SelL.skip)) ?_
                rintro _ -
                try dsimp only
                refine WO.yld (by rfl) (wanted_some (by rfl) (by rfl) (by rfl)) (yld_lss (by rfl) (by rfl)) (by rfl) (by decide) (by repeat (first | exact SelL.nil | exact SelL.self | apply SelL.cons | exact Sel.here | apply Sel.there | apply SelL.skip)) ?_
                refine WO.yld (by rfl) (wanted_plain (by rfl)) (yld_pick_false (by rfl) (by rfl)) (by rfl) (by decide) (by repeat (first | exact SelL.nil | exact SelL.self | apply SelL.cons | exact Sel.here | apply Sel.there | apply SelL.skip)) ?_
                refine WO.done ?_
                refine WK.cond (by rfl) (fun hc195 => ?_) (fun hc195 => ?_)
                · skip
                  have hc195 := of_decide_eq_true hc195
                  omega
                · skip
                  have hc195 := of_decide_eq_false hc195
                  refine WK.skip ?_
                  refine WK.endBlock ?_
                  refine WK.region ?_
                  refine WL.yld (wanted_plain (by rfl)) (yld_move (by rfl)) (by rfl) (by decide) ?_
                  refine WL.yld (wanted_plain (by rfl)) (yld_add (by rfl) (by rfl) (by first | exact w64 (by omega) (by omega) | rfl)) (by rfl) (by decide) ?_
                  refine WL.yld (wanted_plain (by rfl)) (yld_assign (by rfl)) (by rfl) (by decide) ?_
                  refine WL.done ?_
                  exact WK.next hN4 (0 + 1) (by omega) (by omega) (by repeat (first | exact KK.nil | refine KK.cons (by first | rfl | (simp; done)) ?_)) (by repeat (first | exact SelL.nil | exact SelL.self | apply SelL.cons | exact Sel.here | apply Sel.there | apply SelL.skip))
            · skip
              obtain ⟨A, D, a1, a2, a3, a4, a5, a6⟩ := id d1
              have a7 : e1.waiting.length = sl1 - A := by rw [a5, List.length_drop]; omega
              refine WK.skip ?_
              refine WK.seq ?_
              refine WK.block ?_
              refine WK.seq ?_
              refine WK.drawn (by kernel_rfl) [(0, 0), (1, 0), (2, 0), (3, 0), (5, 0), (6, 0), (7, 0), (8, 0), (9, 0), (4, 1), (10, 0), (11, 0), (12, 0), (13, 0), (14, 0), (15, 0), (17, 0), (18, 0), (19, 0), (20, 0), (21, 0), (22, 0), (23, 0), (24, 0), (25, 0), (26, 0), (27, 0), (16, 1), (28, 0), (29, 0)] [sl true 33 1 (some ⟨eb, 0, none⟩) 2 2 [.pointer (some ⟨q0, 0, none⟩), .pointer (some ⟨q1, 0, none⟩)], sl true 42 1 (some ⟨b25, 0, none⟩) 2 2 [.slice sa0 sl0 sc0, .slice sa1 sl1 sc1], sl true 3 1 (some ⟨b26, 0, none⟩) 2 2 [.int .i64 e0.delivered, .int .i64 e1.delivered]] (by kernel_rfl) (by kernel_rfl) (by kernel_rfl) ?_
              refine WO.yld (by rfl) (wanted_plain (by rfl)) (yld_move (by rfl)) (by rfl) (by decide) (by repeat (first | exact SelL.nil | exact SelL.self | apply SelL.cons | exact Sel.here | apply Sel.there | apply SelL.skip)) ?_
              refine WO.yld (by rfl) (wanted_plain (by rfl)) (yld_move (by rfl)) (by rfl) (by decide) (by repeat (first | exact SelL.nil | exact SelL.self | apply SelL.cons | exact Sel.here | apply Sel.there | apply SelL.skip)) ?_
              refine WO.yld (by rfl) (wanted_plain (by rfl)) (yld_indexAddrS (by rfl) (by rfl) (by exact Try.runUnderlying23) (by exact Try.sizeOf33) (by repeat (first | exact .here | apply Sel.there)) (1) (by first | rfl | omega) (by omega) (by omega) (by exact Nat.mul_one _)) (by rfl) (by decide) (by repeat (first | exact SelL.nil | exact SelL.self | apply SelL.cons | exact Sel.here | apply Sel.there | apply SelL.skip)) ?_
              refine WO.yld (by rfl) (wanted_plain (by rfl)) (yld_loadS (by rfl) (by exact Try.isAgg33) (by repeat (first | exact .here | apply Sel.there)) (by first | rfl | assumption | (simp; done) | (simp [*]; done))) (by rfl) (by decide) (by repeat (first | exact SelL.nil | exact SelL.self | apply SelL.cons | exact Sel.here | apply Sel.there | apply SelL.skip)) ?_
              refine WO.yld (by rfl) (wanted_plain (by rfl)) (yld_move (by rfl)) (by rfl) (by decide) (by repeat (first | exact SelL.nil | exact SelL.self | apply SelL.cons | exact Sel.here | apply Sel.there | apply SelL.skip)) ?_
              refine WO.yld (by rfl) (wanted_plain (by rfl)) (yld_move (by rfl)) (by rfl) (by decide) (by repeat (first | exact SelL.nil | exact SelL.self | apply SelL.cons | exact Sel.here | apply Sel.there | apply SelL.skip)) ?_
              refine WO.yld (by rfl) (wanted_plain (by rfl)) (yld_indexAddrS (by rfl) (by rfl) (by exact Try.runUnderlying53) (by exact Try.sizeOf42) (by repeat (first | exact .here | apply Sel.there)) (1) (by first | rfl | omega) (by omega) (by omega) (by exact Nat.mul_one _)) (by rfl) (by decide) (by repeat (first | exact SelL.nil | exact SelL.self | apply SelL.cons | exact Sel.here | apply Sel.there | apply SelL.skip)) ?_
              refine WO.yld (by rfl) (wanted_plain (by rfl)) (yld_loadS (by rfl) (by exact Try.isAgg42) (by repeat (first | exact .here | apply Sel.there)) (by first | rfl | assumption | (simp; done) | (simp [*]; done))) (by rfl) (by decide) (by repeat (first | exact SelL.nil | exact SelL.self | apply SelL.cons | exact Sel.here | apply Sel.there | apply SelL.skip)) ?_
              refine WO.yld (by rfl) (wanted_plain (by rfl)) (yld_len (by rfl) (by exact Try.runUnderlying42)) (by rfl) (by decide) (by repeat (first | exact SelL.nil | exact SelL.self | apply SelL.cons | exact Sel.here | apply Sel.there | apply SelL.skip)) ?_
              refine WO.eff (by rfl) (wanted_plain (by rfl)) (eff_call (by exact Try.call22) (by repeat (first | exact Evs.nil | apply Evs.cons | rfl)) (by repeat (first | exact SelL.nil | exact SelL.self | apply SelL.cons | exact Sel.here | apply Sel.there | apply SelL.skip)) (waiting_spec q1 e1)) (by rfl) (by decide) (by intro x; repeat (first | exact SelL.nil | exact SelL.self | apply SelL.cons | exact Sel.here | apply Sel.there | apply SelL.skip)) ?_
              rintro _ -
              try dsimp only
              refine WO.yld (by rfl) (wanted_plain (by rfl)) (yld_gtr (by rfl) (by rfl)) (by rfl) (by decide) (by repeat (first | exact SelL.nil | exact SelL.self | apply SelL.cons | exact Sel.here | apply Sel.there | apply SelL.skip)) ?_
              refine WO.yld (by rfl) (wanted_plain (by rfl)) (yld_move (by rfl)) (by rfl) (by decide) (by repeat (first | exact SelL.nil | exact SelL.self | apply SelL.cons | exact Sel.here | apply Sel.there | apply SelL.skip)) ?_
              refine WO.split (d := 177) (by rfl) (fun hc177 => ?_) (fun hc177 => ?_)
              · skip
                have hc177 := of_decide_eq_true hc177
                omega
              · skip
                have hc177 := of_decide_eq_false hc177
                refine WO.yld (by rfl) (wanted_some (by rfl) (by rfl) (by rfl)) (yld_move (by rfl)) (by rfl) (by decide) (by repeat (first | exact SelL.nil | exact SelL.self | apply SelL.cons | exact Sel.here | apply Sel.there | apply SelL.skip)) ?_
                refine WO.yld (by rfl) (wanted_some (by rfl) (by rfl) (by rfl)) (yld_move (by rfl)) (by rfl) (by decide) (by repeat (first | exact SelL.nil | exact SelL.self | apply SelL.cons | exact Sel.here | apply Sel.there | apply SelL.skip)) ?_
                refine WO.yld (by rfl) (wanted_some (by rfl) (by rfl) (by rfl)) (yld_indexAddrS (by rfl) (by rfl) (by exact Try.runUnderlying23) (by exact Try.sizeOf33) (by repeat (first | exact .here | apply Sel.there)) (1) (by first | rfl | omega) (by omega) (by omega) (by exact Nat.mul_one _)) (by rfl) (by decide) (by repeat (first | exact SelL.nil | exact SelL.self | apply SelL.cons | exact Sel.here | apply Sel.there | apply SelL.skip)) ?_
                refine WO.yld (by rfl) (wanted_some (by rfl) (by rfl) (by rfl)) (yld_loadS (by rfl) (by exact Try.isAgg33) (by repeat (first | exact .here | apply Sel.there)) (by first | rfl | assumption | (simp; done) | (simp [*]; done))) (by rfl) (by decide) (by repeat (first | exact SelL.nil | exact SelL.self | apply SelL.cons | exact Sel.here | apply Sel.there | apply SelL.skip)) ?_
                refine WO.yld (by rfl) (wanted_some (by rfl) (by rfl) (by rfl)) (yld_move (by rfl)) (by rfl) (by decide) (by repeat (first | exact SelL.nil | exact SelL.self | apply SelL.cons | exact Sel.here | apply Sel.there | apply SelL.skip)) ?_
                refine WO.yld (by rfl) (wanted_some (by rfl) (by rfl) (by rfl)) (yld_move (by rfl)) (by rfl) (by decide) (by repeat (first | exact SelL.nil | exact SelL.self | apply SelL.cons | exact Sel.here | apply Sel.there | apply SelL.skip)) ?_
                refine WO.yld (by rfl) (wanted_some (by rfl) (by rfl) (by rfl)) (yld_indexAddrS (by rfl) (by rfl) (by exact Try.runUnderlying53) (by exact Try.sizeOf42) (by repeat (first | exact .here | apply Sel.there)) (1) (by first | rfl | omega) (by omega) (by omega) (by exact Nat.mul_one _)) (by rfl) (by decide) (by repeat (first | exact SelL.nil | exact SelL.self | apply SelL.cons | exact Sel.here | apply Sel.there | apply SelL.skip)) ?_
                refine WO.yld (by rfl) (wanted_some (by rfl) (by rfl) (by rfl)) (yld_loadS (by rfl) (by exact Try.isAgg42) (by repeat (first | exact .here | apply Sel.there)) (by first | rfl | assumption | (simp; done) | (simp [*]; done))) (by rfl) (by decide) (by repeat (first | exact SelL.nil | exact SelL.self | apply SelL.cons | exact Sel.here | apply Sel.there | apply SelL.skip)) ?_
                refine WO.yld (by rfl) (wanted_some (by rfl) (by rfl) (by rfl)) (yld_len (by rfl) (by exact Try.runUnderlying42)) (by rfl) (by decide) (by repeat (first | exact SelL.nil | exact SelL.self | apply SelL.cons | exact Sel.here | apply Sel.there | apply SelL.skip)) ?_
                refine WO.yld (by rfl) (wanted_some (by rfl) (by rfl) (by rfl)) (yld_move (by rfl)) (by rfl) (by decide) (by repeat (first | exact SelL.nil | exact SelL.self | apply SelL.cons | exact Sel.here | apply Sel.there | apply SelL.skip)) ?_
                refine WO.yld (by rfl) (wanted_some (by rfl) (by rfl) (by rfl)) (yld_move (by rfl)) (by rfl) (by decide) (by repeat (first | exact SelL.nil | exact SelL.self | apply SelL.cons | exact Sel.here | apply Sel.there | apply SelL.skip)) ?_
                refine WO.yld (by rfl) (wanted_some (by rfl) (by rfl) (by rfl)) (yld_sub (by rfl) (by rfl) (by rfl)) (by rfl) (by decide) (by repeat (first | exact SelL.nil | exact SelL.self | apply SelL.cons | exact Sel.here | apply Sel.there | apply SelL.skip)) ?_
                refine WO.yld (by rfl) (wanted_some (by rfl) (by rfl) (by rfl)) (yld_indexAddrS (by rfl) (by rfl) (by exact Try.runUnderlying22) (by exact Try.sizeOf3) (by repeat (first | exact .here | apply Sel.there)) (0) (by first | rfl | omega) (by omega) (by omega) (by exact Nat.mul_one _)) (by rfl) (by decide) (by repeat (first | exact SelL.nil | exact SelL.self | apply SelL.cons | exact Sel.here | apply Sel.there | apply SelL.skip)) ?_
                refine WO.yld (by rfl) (wanted_some (by rfl) (by rfl) (by rfl)) (yld_loadS (by rfl) (by exact Try.isAgg3) (by repeat (first | exact .here | apply Sel.there)) (by first | rfl | assumption | (simp; done) | (simp [*]; done))) (by rfl) (by decide) (by repeat (first | exact SelL.nil | exact SelL.self | apply SelL.cons | exact Sel.here | apply Sel.there | apply SelL.skip)) ?_
                refine WO.yld (by rfl) (wanted_some (by rfl) (by rfl) (by rfl)) (yld_sub (by rfl) (by rfl) (by first | exact w64 (by omega) (by omega) | rfl)) (by rfl) (by decide) (by repeat (first | exact SelL.nil | exact SelL.self | apply SelL.cons | exact Sel.here | apply Sel.there | apply SelL.skip)) ?_
                refine WO.eff (by rfl) (wanted_some (by rfl) (by rfl) (by rfl)) (eff_call (by exact Try.call22) (by repeat (first | exact Evs.nil | apply Evs.cons | rfl)) (by repeat (first | exact SelL.nil | exact SelL.self | apply SelL.cons | exact Sel.here | apply Sel.there | apply SelL.skip)) (waiting_spec q1 e1)) (by rfl) (by decide) (by intro x; repeat (first | exact SelL.nil | exact SelL.self | apply SelL.cons | exact Sel.here | apply Sel.there | apply SelL.skip)) ?_
                rintro _ -
                try dsimp only
                refine WO.yld (by rfl) (wanted_some (by rfl) (by rfl) (by rfl)) (yld_lss (by rfl) (by rfl)) (by rfl) (by decide) (by repeat (first | exact SelL.nil | exact SelL.self | apply SelL.cons | exact Sel.here | apply Sel.there | apply SelL.skip)) ?_
                refine WO.yld (by rfl) (wanted_plain (by rfl)) (yld_pick_false (by rfl) (by rfl)) (by rfl) (by decide) (by repeat (first | exact SelL.nil | exact SelL.self | apply SelL.cons | exact Sel.here | apply Sel.there | apply SelL.skip)) ?_
                refine WO.done ?_
                refine WK.cond (by rfl) (fun hc195 => ?_) (fun hc195 => ?_)
                · skip
                  have hc195 := of_decide_eq_true hc195
                  omega
                · skip
                  have hc195 := of_decide_eq_false hc195
                  refine WK.skip ?_
                  refine WK.endBlock ?_
                  refine WK.region ?_
                  refine WL.yld (wanted_plain (by rfl)) (yld_move (by rfl)) (by rfl) (by decide) ?_
                  refine WL.yld (wanted_plain (by rfl)) (yld_add (by rfl) (by rfl) (by first | exact w64 (by omega) (by omega) | rfl)) (by rfl) (by decide) ?_
                  refine WL.yld (wanted_plain (by rfl)) (yld_assign (by rfl)) (by rfl) (by decide) ?_
                  refine WL.done ?_
                  exact WK.next hN4 (1 + 1) (by omega) (by omega) (by repeat (first | exact KK.nil | refine KK.cons (by first | rfl | (simp; done)) ?_)) (by repeat (first | exact SelL.nil | exact SelL.self | apply SelL.cons | exact Sel.here | apply Sel.there | apply SelL.skip))
          · skip
            have hc163 := of_decide_eq_false hc163
            refine WK.exit ?_
            repeat (first | refine XQ.then_ ?_ | refine XQ.block (by rfl) ?_)
            refine XQ.here ?_
            refine WK.endBlock ?_
            refine WK.region ?_
            refine WL.yld (wanted_plain (by rfl)) (yld_move (by rfl)) (by rfl) (by decide) ?_
            refine WL.yld (wanted_plain (by rfl)) (yld_add (by rfl) (by rfl) (by first | exact w64 (by omega) (by omega) | rfl)) (by rfl) (by decide) ?_
            refine WL.yld (wanted_plain (by rfl)) (yld_assign (by rfl)) (by rfl) (by decide) ?_
            refine WL.done ?_
            exact WK.next hN (i + 1, ⟨e0, e1, s0, s1, L, sa0, sl0, sc0, sv0, sa1, sl1, sc1, sv1, la, ll, lc, lv, ta, tl, tc⟩) ⟨by dsimp only; omega, hJ⟩ (by dsimp only; omega) (by repeat (first | exact KK.nil | refine KK.cons (by first | rfl | (simp; done)) ?_)) (by (try dsimp only [oL, List.cons_append, List.nil_append]); exact (by repeat (first | exact SelL.nil | exact SelL.self | apply SelL.cons | exact Sel.here | apply Sel.there | apply SelL.skip)))
        · intro JB2
          refine WK.block ?_
          refine WK.seq ?_
          refine WK.seq ?_
          refine WK.region ?_
          refine WL.yld (wanted_plain (by rfl)) (yld_eql (by rfl) (by rfl)) (by rfl) (by decide) ?_
          refine WL.yld (wanted_plain (by rfl)) (yld_assign (by rfl)) (by rfl) (by decide) ?_
          refine WL.done ?_
          refine WK.cut (ι := Bool) (fun _ => True) (fun x => [(1, .slice a1 len1 cap1), (5, .slice (some ⟨eb, 0, none⟩) 2 2), (6, .slice (some ⟨b25, 0, none⟩) 2 2), (7, .slice (some ⟨b26, 0, none⟩) 2 2), (8, .slice la ll lc), (9, .slice ta tl tc), (10, .int .i64 (i : Int)), (11, .int .i64 (nn : Int)), (12, .int .i64 ((nn % 2 : Nat) : Int)), (49, .int .i64 c), (113, .bool x)]) (fun _ => endR q0 e0 :: endR q1 e1 :: sl true 33 1 (some ⟨eb, 0, none⟩) 2 2 [.pointer (some ⟨q0, 0, none⟩), .pointer (some ⟨q1, 0, none⟩)] :: sl true 42 1 (some ⟨b25, 0, none⟩) 2 2 [.slice sa0 sl0 sc0, .slice sa1 sl1 sc1] :: sl true 3 1 (some ⟨b26, 0, none⟩) 2 2 [.int .i64 e0.delivered, .int .i64 e1.delivered] :: sl true 31 1 sa0 sl0 sc0 sv0 :: allR (byt 5 false) sv0 s0 :: sl true 31 1 sa1 sl1 sc1 sv1 :: allR (byt 5 false) sv1 s1 :: sl true 44 3 la ll lc (pktC (L.map (·.1)) lv) :: allR (byt 5 false) lv (L.map (·.1.b)) :: sl true 3 1 ta tl tc (L.map fun p => .int .i64 p.2) :: slr 1 a1 len1 (zs.map (Value.int .i64)) :: F) ?_ ?_
          · skip
            rintro x113 -
            refine WK.cond (by rfl) (fun hc113 => ?_) (fun hc113 => ?_)
            · skip
              refine WK.seq ?_
              refine WK.region ?_
              refine WL.yld (wanted_plain (by rfl)) (yld_move (by rfl)) (by rfl) (by decide) ?_
              refine WL.yld (wanted_plain (by rfl)) (yld_convInt (by rfl) (by exact Try.runUnderlying3) (by exact Try.runUnderlying5) u8wrap4) (by rfl) (by decide) ?_
              refine WL.eff (wanted_plain (by rfl)) (eff_mkSliceN (by exact Try.runUnderlying31) (by exact Try.sizeOf5) (by exact Try.zeroValue5) (by repeat (first | exact PrtsN.nil | apply PrtsN.cons | rfl)) (by decide) (by rfl) (by rfl) (by rfl) (by rfl)) (by rfl) (by decide) ?_
              rintro b118 -
              try dsimp only [List.cons_append, List.nil_append]
              try dsimp only
              refine WL.yld (wanted_plain (by rfl)) (yld_assign (by rfl)) (by rfl) (by decide) ?_
              refine WL.done ?_
              refine WK.seq ?_
              refine WK.seq ?_
              refine WK.region ?_
              obtain hk | hk : nn % 2 = 0 ∨ nn % 2 = 1 := by omega
              · skip
                refine WL.yld (wanted_plain (by rfl)) (yld_move (by rfl)) (by rfl) (by decide) ?_
                refine WL.yld (wanted_plain (by rfl)) (yld_move (by rfl)) (by rfl) (by decide) ?_
                refine WL.yld (wanted_plain (by rfl)) (yld_indexAddrS (by rfl) (by rfl) (by exact Try.runUnderlying23) (by exact Try.sizeOf33) (by repeat (first | exact .here | apply Sel.there)) (0) (by first | rfl | omega) (by omega) (by omega) (by exact Nat.mul_one _)) (by rfl) (by decide) ?_
                refine WL.yld (wanted_plain (by rfl)) (yld_loadS (by rfl) (by exact Try.isAgg33) (by repeat (first | exact .here | apply Sel.there)) (by first | rfl | assumption | (simp; done) | (simp [*]; done))) (by rfl) (by decide) ?_
                refine WL.yld (wanted_plain (by rfl)) (yld_move (by rfl)) (by rfl) (by decide) ?_
                refine WL.eff (wanted_plain (by rfl)) (eff_call (by exact Try.call13) (by repeat (first | exact Evs.nil | apply Evs.cons | rfl)) (by repeat (first | exact SelL.nil | exact SelL.self | apply SelL.cons | exact Sel.here | apply Sel.there | apply SelL.skip)) (send_spec q0 e0 true (some ⟨b118, 0, none⟩) 2 [UInt8.ofNat i, 3] (by simp))) (by rfl) (by decide) ?_
                rintro _ -
                obtain ⟨hs1, hs2⟩ := Dir.send (b := [UInt8.ofNat i, 3]) d0 (by omega) (by simp)
                rw [hs1]
                try dsimp only
                refine WL.yld (wanted_plain (by rfl)) (yld_neq (by rfl) (by rfl)) (by rfl) (by decide) ?_
                refine WL.done ?_
                refine WK.cond (by rfl) (fun hc125 => ?_) (fun hc125 => ?_)
                · skip
                  have hc125 := of_decide_eq_true hc125
                  first | omega | exact absurd rfl hc125 | (simp at hc125; done) | (exact absurd hc125 (by decide))
                · skip
                  have hc125 := of_decide_eq_false hc125
                  refine WK.skip ?_
                  refine WK.region ?_
                  refine WL.yld (wanted_plain (by rfl)) (yld_move (by rfl)) (by rfl) (by decide) ?_
                  refine WL.yld (wanted_plain (by rfl)) (yld_move (by rfl)) (by rfl) (by decide) ?_
                  refine WL.yld (wanted_plain (by rfl)) (yld_move (by rfl)) (by rfl) (by decide) ?_
                  refine WL.yld (wanted_plain (by rfl)) (yld_move (by rfl)) (by rfl) (by decide) ?_
                  refine WL.yld (wanted_plain (by rfl)) (yld_indexAddrS (by rfl) (by rfl) (by exact Try.runUnderlying53) (by exact Try.sizeOf42) (by repeat (first | exact .here | apply Sel.there)) (0) (by first | rfl | omega) (by omega) (by omega) (by exact Nat.mul_one _)) (by rfl) (by decide) ?_
                  refine WL.yld (wanted_plain (by rfl)) (yld_loadS (by rfl) (by exact Try.isAgg42) (by repeat (first | exact .here | apply Sel.there)) (by first | rfl | assumption | (simp; done) | (simp [*]; done))) (by rfl) (by decide) ?_
                  refine WL.yld (wanted_plain (by rfl)) (yld_move (by rfl)) (by rfl) (by decide) ?_
                  refine WL.eff (wanted_plain (by rfl)) (eff_mkSlice1 (by rfl) (by rfl) (by exact Try.runUnderlying42) (by exact Try.sizeOf31) (by exact Try.zeroValue31) (by rfl) (by rfl) (by decide) (by rfl)) (by rfl) (by decide) ?_
                  rintro b133 -
                  try dsimp only
                  refine WL.eff (wanted_plain (by rfl)) (eff_append (by rfl) (by rfl) (by exact elem42) (by exact Try.underlying42) (by repeat (first | exact SelL.nil | exact SelL.self | apply SelL.cons | exact Sel.here | apply Sel.there | apply SelL.skip)) (by omega) (by omega)) (by rfl) (by decide) ?_
                  rintro ⟨ad134, cap134⟩ -
                  try dsimp only
                  refine WL.yld (wanted_plain (by rfl)) (yld_indexAddrS (by rfl) (by rfl) (by exact Try.runUnderlying53) (by exact Try.sizeOf42) (by repeat (first | exact .here | apply Sel.there)) (0) (by first | rfl | omega) (by omega) (by omega) (by exact Nat.mul_one _)) (by rfl) (by decide) ?_
                  refine WL.eff0 (wanted_plain (by rfl)) (eff_storeS (by rfl) (by rfl) (by exact Try.sizeOf42) (by rfl) (by rfl) (by rfl) (by simp) (by repeat (first | exact .here | apply Sel.there)) (by repeat (first | exact SetAts.nil | apply SetAts.cons | exact SetAt.here | apply SetAt.there))) (by rfl) ?_
                  rintro _ -
                  try dsimp only
                  refine WL.done ?_
                  refine WK.endBlock ?_
                  refine WK.sat (fun w s => Sat.allSnoc ((s.sel1 (A := sl true 5 1 (some ⟨b118, 0, none⟩) 2 2 ([UInt8.ofNat i, 3].map bv)) (by repeat (first | exact .here | apply Sel.there))).slFreeze.bytShut.sel (As := [allR (byt 5 false) sv0 s0, byt 5 false (.slice (some ⟨b118, 0, none⟩) 2 2) [UInt8.ofNat i, 3]]) (by repeat (first | exact SelL.nil | exact SelL.self | apply SelL.cons | exact Sel.here | apply Sel.there | apply SelL.skip)))) ?_
                  exact WK.goto JB2 ⟨{ e0 with waiting := e0.waiting ++ [[UInt8.ofNat i, 3]] }, e1, s0 ++ [[UInt8.ofNat i, 3]], s1, L, ad134, (sl0 + 1), cap134, (sv0 ++ [.slice (some ⟨b118, 0, none⟩) 2 2]), sa1, sl1, sc1, sv1, la, ll, lc, lv, ta, tl, tc⟩ ⟨v0.mono rfl (Nat.le_succ _), v1.mono rfl (Nat.le_succ _), hs2, (Dir.other d1 rfl rfl), (by simp only [List.length_append, List.length_cons, List.length_nil]; omega), (fun b hb => (List.mem_append.1 hb).elim (t0 b) (fun h => by simp at h; subst h; rfl)), t1, (fun p hp => (hlink p hp).imp (fun h => ⟨h.1, h.2.mono ⟨[[UInt8.ofNat i, 3]], rfl⟩ (Int.le_refl _)⟩) (fun h => ⟨h.1, h.2.mono ⟨[], (List.append_nil _).symm⟩ (Int.le_refl _)⟩)), (by dsimp only; omega)⟩ (by repeat (first | exact KK.nil | refine KK.cons (by first | rfl | (simp; done)) ?_)) (by (try dsimp only [oL, List.cons_append, List.nil_append]); exact (by repeat (first | exact SelL.nil | exact SelL.self | apply SelL.cons | exact Sel.here | apply Sel.there | apply SelL.skip)))
              · skip
                refine WL.yld (wanted_plain (by rfl)) (yld_move (by rfl)) (by rfl) (by decide) ?_
                refine WL.yld (wanted_plain (by rfl)) (yld_move (by rfl)) (by rfl) (by decide) ?_
                refine WL.yld (wanted_plain (by rfl)) (yld_indexAddrS (by rfl) (by rfl) (by exact Try.runUnderlying23) (by exact Try.sizeOf33) (by repeat (first | exact .here | apply Sel.there)) (1) (by first | rfl | omega) (by omega) (by omega) (by exact Nat.mul_one _)) (by rfl) (by decide) ?_
                refine WL.yld (wanted_plain (by rfl)) (yld_loadS (by rfl) (by exact Try.isAgg33) (by repeat (first | exact .here | apply Sel.there)) (by first | rfl | assumption | (simp; done) | (simp [*]; done))) (by rfl) (by decide) ?_
                refine WL.yld (wanted_plain (by rfl)) (yld_move (by rfl)) (by rfl) (by decide) ?_
                refine WL.eff (wanted_plain (by rfl)) (eff_call (by exact Try.call13) (by repeat (first | exact Evs.nil | apply Evs.cons | rfl)) (by repeat (first | exact SelL.nil | exact SelL.self | apply SelL.cons | exact Sel.here | apply Sel.there | apply SelL.skip)) (send_spec q1 e1 true (some ⟨b118, 0, none⟩) 2 [UInt8.ofNat i, 3] (by simp))) (by rfl) (by decide) ?_
                rintro _ -
                obtain ⟨hs1, hs2⟩ := Dir.send (b := [UInt8.ofNat i, 3]) d1 (by omega) (by simp)
                rw [hs1]
                try dsimp only
                refine WL.yld (wanted_plain (by rfl)) (yld_neq (by rfl) (by rfl)) (by rfl) (by decide) ?_
                refine WL.done ?_
                refine WK.cond (by rfl) (fun hc125 => ?_) (fun hc125 => ?_)
                · skip
                  have hc125 := of_decide_eq_true hc125
                  first | omega | exact absurd rfl hc125 | (simp at hc125; done) | (exact absurd hc125 (by decide))
                · skip
                  have hc125 := of_decide_eq_false hc125
                  refine WK.skip ?_
                  refine WK.region ?_
                  refine WL.yld (wanted_plain (by rfl)) (yld_move (by rfl)) (by rfl) (by decide) ?_
                  refine WL.yld (wanted_plain (by rfl)) (yld_move (by rfl)) (by rfl) (by decide) ?_
                  refine WL.yld (wanted_plain (by rfl)) (yld_move (by rfl)) (by rfl) (by decide) ?_
                  refine WL.yld (wanted_plain (by rfl)) (yld_move (by rfl)) (by rfl) (by decide) ?_
                  refine WL.yld (wanted_plain (by rfl)) (yld_indexAddrS (by rfl) (by rfl) (by exact Try.runUnderlying53) (by exact Try.sizeOf42) (by repeat (first | exact .here | apply Sel.there)) (1) (by first | rfl | omega) (by omega) (by omega) (by exact Nat.mul_one _)) (by rfl) (by decide) ?_
                  refine WL.yld (wanted_plain (by rfl)) (yld_loadS (by rfl) (by exact Try.isAgg42) (by repeat (first | exact .here | apply Sel.there)) (by first | rfl | assumption | (simp; done) | (simp [*]; done))) (by rfl) (by decide) ?_
                  refine WL.yld (wanted_plain (by rfl)) (yld_move (by rfl)) (by rfl) (by decide) ?_
                  refine WL.eff (wanted_plain (by rfl)) (eff_mkSlice1 (by rfl) (by rfl) (by exact Try.runUnderlying42) (by exact Try.sizeOf31) (by exact Try.zeroValue31) (by rfl) (by rfl) (by decide) (by rfl)) (by rfl) (by decide) ?_
                  rintro b133 -
                  try dsimp only
                  refine WL.eff (wanted_plain (by rfl)) (eff_append (by rfl) (by rfl) (by exact elem42) (by exact Try.underlying42) (by repeat (first | exact SelL.nil | exact SelL.self | apply SelL.cons | exact Sel.here | apply Sel.there | apply SelL.skip)) (by omega) (by omega)) (by rfl) (by decide) ?_
                  rintro ⟨ad134, cap134⟩ -
                  try dsimp only
                  refine WL.yld (wanted_plain (by rfl)) (yld_indexAddrS (by rfl) (by rfl) (by exact Try.runUnderlying53) (by exact Try.sizeOf42) (by repeat (first | exact .here | apply Sel.there)) (1) (by first | rfl | omega) (by omega) (by omega) (by exact Nat.mul_one _)) (by rfl) (by decide) ?_
                  refine WL.eff0 (wanted_plain (by rfl)) (eff_storeS (by rfl) (by rfl) (by exact Try.sizeOf42) (by rfl) (by rfl) (by rfl) (by simp) (by repeat (first | exact .here | apply Sel.there)) (by repeat (first | exact SetAts.nil | apply SetAts.cons | exact SetAt.here | apply SetAt.there))) (by rfl) ?_
                  rintro _ -
                  try dsimp only
                  refine WL.done ?_
                  refine WK.endBlock ?_
                  refine WK.sat (fun w s => Sat.allSnoc ((s.sel1 (A := sl true 5 1 (some ⟨b118, 0, none⟩) 2 2 ([UInt8.ofNat i, 3].map bv)) (by repeat (first | exact .here | apply Sel.there))).slFreeze.bytShut.sel (As := [allR (byt 5 false) sv1 s1, byt 5 false (.slice (some ⟨b118, 0, none⟩) 2 2) [UInt8.ofNat i, 3]]) (by repeat (first | exact SelL.nil | exact SelL.self | apply SelL.cons | exact Sel.here | apply Sel.there | apply SelL.skip)))) ?_
                  exact WK.goto JB2 ⟨e0, { e1 with waiting := e1.waiting ++ [[UInt8.ofNat i, 3]] }, s0, s1 ++ [[UInt8.ofNat i, 3]], L, sa0, sl0, sc0, sv0, ad134, (sl1 + 1), cap134, (sv1 ++ [.slice (some ⟨b118, 0, none⟩) 2 2]), la, ll, lc, lv, ta, tl, tc⟩ ⟨v0.mono rfl (Nat.le_succ _), v1.mono rfl (Nat.le_succ _), (Dir.other d0 rfl rfl), hs2, (by simp only [List.length_append, List.length_cons, List.length_nil]; omega), t0, (fun b hb => (List.mem_append.1 hb).elim (t1 b) (fun h => by simp at h; subst h; rfl)), (fun p hp => (hlink p hp).imp (fun h => ⟨h.1, h.2.mono ⟨[], (List.append_nil _).symm⟩ (Int.le_refl _)⟩) (fun h => ⟨h.1, h.2.mono ⟨[[UInt8.ofNat i, 3]], rfl⟩ (Int.le_refl _)⟩)), (by dsimp only; omega)⟩ (by repeat (first | exact KK.nil | refine KK.cons (by first | rfl | (simp; done)) ?_)) (by (try dsimp only [oL, List.cons_append, List.nil_append]); exact (by repeat (first | exact SelL.nil | exact SelL.self | apply SelL.cons | exact Sel.here | apply Sel.there | apply SelL.skip)))
            · skip
              refine WK.seq ?_
              refine WK.seq ?_
              refine WK.region ?_
              refine WL.yld (wanted_plain (by rfl)) (yld_eql (by rfl) (by rfl)) (by rfl) (by decide) ?_
              refine WL.yld (wanted_plain (by rfl)) (yld_assign (by rfl)) (by rfl) (by decide) ?_
              refine WL.done ?_
              refine WK.cut (ι := Bool) (fun _ => True) (fun x => [(1, .slice a1 len1 cap1), (5, .slice (some ⟨eb, 0, none⟩) 2 2), (6, .slice (some ⟨b25, 0, none⟩) 2 2), (7, .slice (some ⟨b26, 0, none⟩) 2 2), (8, .slice la ll lc), (9, .slice ta tl tc), (10, .int .i64 (i : Int)), (11, .int .i64 (nn : Int)), (12, .int .i64 ((nn % 2 : Nat) : Int)), (49, .int .i64 c), (136, .bool x)]) (fun _ => endR q0 e0 :: endR q1 e1 :: sl true 33 1 (some ⟨eb, 0, none⟩) 2 2 [.pointer (some ⟨q0, 0, none⟩), .pointer (some ⟨q1, 0, none⟩)] :: sl true 42 1 (some ⟨b25, 0, none⟩) 2 2 [.slice sa0 sl0 sc0, .slice sa1 sl1 sc1] :: sl true 3 1 (some ⟨b26, 0, none⟩) 2 2 [.int .i64 e0.delivered, .int .i64 e1.delivered] :: sl true 31 1 sa0 sl0 sc0 sv0 :: allR (byt 5 false) sv0 s0 :: sl true 31 1 sa1 sl1 sc1 sv1 :: allR (byt 5 false) sv1 s1 :: sl true 44 3 la ll lc (pktC (L.map (·.1)) lv) :: allR (byt 5 false) lv (L.map (·.1.b)) :: sl true 3 1 ta tl tc (L.map fun p => .int .i64 p.2) :: slr 1 a1 len1 (zs.map (Value.int .i64)) :: F) ?_ ?_
              · skip
                rintro x136 -
                refine WK.cond (by rfl) (fun hc136 => ?_) (fun hc136 => ?_)
                · skip
                  refine WK.seq ?_
                  refine WK.region ?_
                  obtain hk | hk : nn % 2 = 0 ∨ nn % 2 = 1 := by omega
                  · skip
                    refine WL.yld (wanted_plain (by rfl)) (yld_move (by rfl)) (by rfl) (by decide) ?_
                    refine WL.yld (wanted_plain (by rfl)) (yld_move (by rfl)) (by rfl) (by decide) ?_
                    refine WL.yld (wanted_plain (by rfl)) (yld_indexAddrS (by rfl) (by rfl) (by exact Try.runUnderlying23) (by exact Try.sizeOf33) (by repeat (first | exact .here | apply Sel.there)) (0) (by first | rfl | omega) (by omega) (by omega) (by exact Nat.mul_one _)) (by rfl) (by decide) ?_
                    refine WL.yld (wanted_plain (by rfl)) (yld_loadS (by rfl) (by exact Try.isAgg33) (by repeat (first | exact .here | apply Sel.there)) (by first | rfl | assumption | (simp; done) | (simp [*]; done))) (by rfl) (by decide) ?_
                    refine WL.eff (wanted_plain (by rfl)) (eff_call (by exact Try.call15) (by repeat (first | exact Evs.nil | apply Evs.cons | rfl)) (by repeat (first | exact SelL.nil | exact SelL.self | apply SelL.cons | exact Sel.here | apply Sel.there | apply SelL.skip)) (out_specR q0 e0 (Dir.okE v0 d0 d1 (by omega) (by omega) (fun b hb => by have := t0 b hb; omega)))) (by rfl) (by decide) ?_
                    rintro ⟨ad143, len143, cap143, vs143⟩ ⟨hl143, hv143⟩
                    have hps := Dir.out d0 d1
                    have hpl := outM_len v0.win
                    rw [show (outM e0).2 = { e0 with owing := false } from rfl]
                    generalize (outM e0).1 = ps at hl143 hps hpl ⊢
                    dsimp only at hl143 hv143 ⊢
                    try dsimp only
                    refine WL.yld (wanted_plain (by rfl)) (yld_assign (by rfl)) (by rfl) (by decide) ?_
                    refine WL.done ?_
                    refine WK.seq ?_
                    refine WK.region ?_
                    refine WL.yld (wanted_plain (by rfl)) (yld_assign (by rfl)) (by rfl) (by decide) ?_
                    refine WL.done ?_
                    refine WK.block ?_
                    refine WK.loop (ι := Nat × (Option Addr × Nat) × Option Addr × Nat) (fun r => r.1 ≤ len143) (fun r => [(1, .slice a1 len1 cap1), (5, .slice (some ⟨eb, 0, none⟩) 2 2), (6, .slice (some ⟨b25, 0, none⟩) 2 2), (7, .slice (some ⟨b26, 0, none⟩) 2 2), (8, .slice r.2.1.1 (ll + r.1) r.2.1.2), (9, .slice r.2.2.1 (tl + r.1) r.2.2.2), (10, .int .i64 (i : Int)), (12, .int .i64 ((nn % 2 : Nat) : Int)), (14, .slice ad143 len143 cap143), (15, .int .i64 (r.1 : Int))]) (fun r => sl true 44 3 r.2.1.1 (ll + r.1) r.2.1.2 (pktC ((onWay L ps 1 r.1).map (·.1)) (lv ++ vs143.take r.1)) :: allR (byt 5 false) (lv ++ vs143.take r.1) ((onWay L ps 1 r.1).map (·.1.b)) :: sl true 3 1 r.2.2.1 (tl + r.1) r.2.2.2 ((onWay L ps 1 r.1).map fun p => .int .i64 p.2) :: sl true 44 3 ad143 len143 cap143 (pktC ps vs143) :: allR (byt 5 false) vs143 (ps.map (·.b)) :: endR q0 { e0 with owing := false } :: endR q1 e1 :: sl true 33 1 (some ⟨eb, 0, none⟩) 2 2 [.pointer (some ⟨q0, 0, none⟩), .pointer (some ⟨q1, 0, none⟩)] :: sl true 42 1 (some ⟨b25, 0, none⟩) 2 2 [.slice sa0 sl0 sc0, .slice sa1 sl1 sc1] :: sl true 3 1 (some ⟨b26, 0, none⟩) 2 2 [.int .i64 e0.delivered, .int .i64 e1.delivered] :: sl true 31 1 sa0 sl0 sc0 sv0 :: allR (byt 5 false) sv0 s0 :: sl true 31 1 sa1 sl1 sc1 sv1 :: allR (byt 5 false) sv1 s1 :: slr 1 a1 len1 (zs.map (Value.int .i64)) :: F) (fun r => len143 - r.1) ((0, (la, lc), ta, tc)) (Nat.zero_le _) (by repeat (first | exact KK.nil | refine KK.cons (by first | rfl | (simp; done)) ?_)) (by (try dsimp only); rw [onWay_zero, List.take_zero, List.append_nil]; exact (by repeat (first | exact SelL.nil | exact SelL.self | apply SelL.cons | exact Sel.here | apply Sel.there | apply SelL.skip))) ?_
                    rintro ⟨j, ⟨la2, lc2⟩, ta2, tc2⟩ hj N2 hN2
                    dsimp only at hj ⊢
                    refine WK.seq ?_
                    refine WK.seq ?_
                    refine WK.region ?_
                    refine WL.yld (wanted_plain (by rfl)) (yld_move (by rfl)) (by rfl) (by decide) ?_
                    refine WL.yld (wanted_plain (by rfl)) (yld_move (by rfl)) (by rfl) (by decide) ?_
                    refine WL.yld (wanted_plain (by rfl)) (yld_len (by rfl) (by exact Try.runUnderlying35)) (by rfl) (by decide) ?_
                    refine WL.yld (wanted_plain (by rfl)) (yld_lss (by rfl) (by rfl)) (by rfl) (by decide) ?_
                    refine WL.done ?_
                    refine WK.cond (by rfl) (fun hc147 => ?_) (fun hc147 => ?_)
                    · skip
                      have hc147 := of_decide_eq_true hc147
                      refine WK.skip ?_
                      refine WK.seq ?_
                      refine WK.block ?_
                      refine WK.seq ?_
                      obtain ⟨p7, hp7⟩ : ∃ p, ps[j]? = some p := ⟨_, List.getElem?_eq_getElem (by omega)⟩
                      refine WK.openS (fun w s => Sat.allByt (k := j) (bs := p7.b) (by rw [List.getElem?_map, hp7]; rfl) (s.sel1 (A := allR (byt 5 false) vs143 (ps.map (·.b))) (by repeat (first | exact .here | apply Sel.there)))) ?_
                      rintro ⟨ad7, len7, cap7⟩ ⟨hv7, hl7⟩
                      dsimp only at hv7 hl7
                      subst hl7
                      try dsimp only [List.cons_append, List.nil_append]
                      refine WK.region ?_
                      refine WL.yld (wanted_plain (by rfl)) (yld_move (by rfl)) (by rfl) (by decide) ?_
                      refine WL.yld (wanted_plain (by rfl)) (yld_move (by rfl)) (by rfl) (by decide) ?_
                      refine WL.yld (wanted_plain (by rfl)) (yld_move (by rfl)) (by rfl) (by decide) ?_
                      refine WL.yld (wanted_plain (by rfl)) (yld_indexAddrS (by rfl) (by rfl) (by exact Try.runUnderlying35) (by exact Try.sizeOf44) (by repeat (first | exact .here | apply Sel.there)) (j) (by first | rfl | omega) (by omega) (by omega) (by rfl)) (by rfl) (by decide) ?_
                      refine WL.yld (wanted_plain (by rfl)) (yld_loadSA (by rfl) (by exact Try.isAgg44) (by exact Try.sizeOf44) (by repeat (first | exact .here | apply Sel.there)) (by exact pktC_cells (j := j) hp7 hv7)) (by rfl) (by decide) ?_
                      refine WL.eff (wanted_plain (by rfl)) (eff_mkSlice1 (by rfl) (by rfl) (by exact Try.runUnderlying35) (by exact Try.sizeOf44) (by exact Try.zeroValue44) (by rfl) (by rfl) (by decide) (by rfl)) (by rfl) (by decide) ?_
                      rintro b155 -
                      try dsimp only
                      refine WL.eff (wanted_plain (by rfl)) (eff_append (by rfl) (by rfl) (by exact elem35) (by exact Try.underlying35) (by repeat (first | exact SelL.nil | exact SelL.self | apply SelL.cons | exact Sel.here | apply Sel.there | apply SelL.skip)) (by omega) (by omega)) (by rfl) (by decide) ?_
                      rintro ⟨ad156, cap156⟩ -
                      try dsimp only
                      refine WL.yld (wanted_plain (by rfl)) (yld_assign (by rfl)) (by rfl) (by decide) ?_
                      refine WL.done ?_
                      refine WK.region ?_
                      refine WL.yld (wanted_plain (by rfl)) (yld_move (by rfl)) (by rfl) (by decide) ?_
                      refine WL.yld (wanted_plain (by rfl)) (yld_move (by rfl)) (by rfl) (by decide) ?_
                      refine WL.yld (wanted_plain (by rfl)) (yld_sub (by rfl) (by rfl) (by first | exact w64 (by omega) (by omega) | rfl)) (by rfl) (by decide) ?_
                      refine WL.eff (wanted_plain (by rfl)) (eff_mkSlice1 (by rfl) (by rfl) (by exact Try.runUnderlying22) (by exact Try.sizeOf3) (by exact Try.zeroValue3) (by rfl) (by rfl) (by decide) (by rfl)) (by rfl) (by decide) ?_
                      rintro b160 -
                      try dsimp only
                      refine WL.eff (wanted_plain (by rfl)) (eff_append (by rfl) (by rfl) (by exact elem22) (by exact Try.underlying22) (by repeat (first | exact SelL.nil | exact SelL.self | apply SelL.cons | exact Sel.here | apply Sel.there | apply SelL.skip)) (by omega) (by omega)) (by rfl) (by decide) ?_
                      rintro ⟨ad161, cap161⟩ -
                      try dsimp only
                      refine WL.yld (wanted_plain (by rfl)) (yld_assign (by rfl)) (by rfl) (by decide) ?_
                      refine WL.done ?_
                      refine WK.endBlock ?_
                      refine WK.region ?_
                      refine WL.yld (wanted_plain (by rfl)) (yld_move (by rfl)) (by rfl) (by decide) ?_
                      refine WL.yld (wanted_plain (by rfl)) (yld_add (by rfl) (by rfl) (by first | exact w64 (by omega) (by omega) | rfl)) (by rfl) (by decide) ?_
                      refine WL.yld (wanted_plain (by rfl)) (yld_assign (by rfl)) (by rfl) (by decide) ?_
                      refine WL.done ?_
                      have hlp : (onWay L ps 1 j).length = L.length + j := onWay_len (by omega)
                      have hvl : (lv ++ vs143.take j).length = lv.length + j := by rw [List.length_append, List.length_take]; omega
                      have htk : lv ++ vs143.take (j + 1) = (lv ++ vs143.take j) ++ [.slice ad7 p7.b.length cap7] := by rw [List.take_add_one, hv7, List.append_assoc]; rfl
                      refine WK.sat (fun w s => Sat.allSnoc ((s.sel1 (A := sl false 5 1 ad7 p7.b.length cap7 (p7.b.map bv)) (by repeat (first | exact .here | apply Sel.there))).bytShut.sel (As := [allR (byt 5 false) (lv ++ vs143.take j) ((onWay L ps 1 j).map (·.1.b)), byt 5 false (.slice ad7 p7.b.length cap7) p7.b]) (by repeat (first | exact SelL.nil | exact SelL.self | apply SelL.cons | exact Sel.here | apply Sel.there | apply SelL.skip)))) ?_
                      rw [show (1 - ((nn % 2 : Nat) : Int)) = ((1 : Nat) : Int) from by rw [hk]; rfl]
                      apply WK.next hN2 (j + 1, (ad156, cap156), ad161, cap161) (by dsimp only; omega) (by dsimp only; omega) (by repeat (first | exact KK.nil | refine KK.cons (by first | rfl | (simp; done)) ?_))
                      dsimp only
                      rw [onWay_succ hp7, htk]
                      simp only [List.map_append, List.map_cons, List.map_nil]
                      rw [pktC_snoc _ _ _ _ (by rw [List.length_map, hlp, hvl]; omega)]
                      exact (by repeat (first | exact SelL.nil | exact SelL.self | apply SelL.cons | exact Sel.here | apply Sel.there | apply SelL.skip))
                    · skip
                      have hc147 := of_decide_eq_false hc147
                      refine WK.exit ?_
                      repeat (first | refine XQ.then_ ?_ | refine XQ.block (by rfl) ?_)
                      refine XQ.here ?_
                      refine WK.endBlock ?_
                      exact WK.goto JB2 ⟨{ e0 with owing := false }, e1, s0, s1, (onWay L ps 1 j), sa0, sl0, sc0, sv0, sa1, sl1, sc1, sv1, la2, (ll + j), lc2, (lv ++ vs143.take j), ta2, (tl + j), tc2⟩ ⟨v0.mono rfl (Nat.le_succ _), v1.mono rfl (Nat.le_succ _), (Dir.own d0 rfl rfl), (Dir.other d1 rfl rfl), (by dsimp only; omega), t0, t1, (fun p hp => (onWay_mem hp).elim (fun hp => (hlink p hp).imp (fun h => ⟨h.1, h.2.mono ⟨[], (List.append_nil _).symm⟩ (Int.le_refl _)⟩) (fun h => ⟨h.1, h.2.mono ⟨[], (List.append_nil _).symm⟩ (Int.le_refl _)⟩)) (fun h => .inl ⟨h.2, (hps _ h.1).mono ⟨[], (List.append_nil _).symm⟩ (Int.le_refl _)⟩)), (by dsimp only; rw [onWay_len (by omega)]; omega)⟩ (by repeat (first | exact KK.nil | refine KK.cons (by first | rfl | (simp; done)) ?_)) (by (try dsimp only [oL, List.cons_append, List.nil_append]); exact (by repeat (first | exact SelL.nil | exact SelL.self | apply SelL.cons | exact Sel.here | apply Sel.there | apply SelL.skip)))
                  · skip
                    refine WL.yld (wanted_plain (by rfl)) (yld_move (by rfl)) (by rfl) (by decide) ?_
                    refine WL.yld (wanted_plain (by rfl)) (yld_move (by rfl)) (by rfl) (by decide) ?_
                    refine WL.yld (wanted_plain (by rfl)) (yld_indexAddrS (by rfl) (by rfl) (by exact Try.runUnderlying23) (by exact Try.sizeOf33) (by repeat (first | exact .here | apply Sel.there)) (1) (by first | rfl | omega) (by omega) (by omega) (by exact Nat.mul_one _)) (by rfl) (by decide) ?_
                    refine WL.yld (wanted_plain (by rfl)) (yld_loadS (by rfl) (by exact Try.isAgg33) (by repeat (first | exact .here | apply Sel.there)) (by first | rfl | assumption | (simp; done) | (simp [*]; done))) (by rfl) (by decide) ?_
                    refine WL.eff (wanted_plain (by rfl)) (eff_call (by exact Try.call15) (by repeat (first | exact Evs.nil | apply Evs.cons | rfl)) (by repeat (first | exact SelL.nil | exact SelL.self | apply SelL.cons | exact Sel.here | apply Sel.there | apply SelL.skip)) (out_specR q1 e1 (Dir.okE v1 d1 d0 (by omega) (by omega) (fun b hb => by have := t1 b hb; omega)))) (by rfl) (by decide) ?_
                    rintro ⟨ad143, len143, cap143, vs143⟩ ⟨hl143, hv143⟩
                    have hps := Dir.out d1 d0
                    have hpl := outM_len v1.win
                    rw [show (outM e1).2 = { e1 with owing := false } from rfl]
                    generalize (outM e1).1 = ps at hl143 hps hpl ⊢
                    dsimp only at hl143 hv143 ⊢
                    try dsimp only
                    refine WL.yld (wanted_plain (by rfl)) (yld_assign (by rfl)) (by rfl) (by decide) ?_
                    refine WL.done ?_
                    refine WK.seq ?_
                    refine WK.region ?_
                    refine WL.yld (wanted_plain (by rfl)) (yld_assign (by rfl)) (by rfl) (by decide) ?_
                    refine WL.done ?_
                    refine WK.block ?_
                    refine WK.loop (ι := Nat × (Option Addr × Nat) × Option Addr × Nat) (fun r => r.1 ≤ len143) (fun r => [(1, .slice a1 len1 cap1), (5, .slice (some ⟨eb, 0, none⟩) 2 2), (6, .slice (some ⟨b25, 0, none⟩) 2 2), (7, .slice (some ⟨b26, 0, none⟩) 2 2), (8, .slice r.2.1.1 (ll + r.1) r.2.1.2), (9, .slice r.2.2.1 (tl + r.1) r.2.2.2), (10, .int .i64 (i : Int)), (12, .int .i64 ((nn % 2 : Nat) : Int)), (14, .slice ad143 len143 cap143), (15, .int .i64 (r.1 : Int))]) (fun r => sl true 44 3 r.2.1.1 (ll + r.1) r.2.1.2 (pktC ((onWay L ps 0 r.1).map (·.1)) (lv ++ vs143.take r.1)) :: allR (byt 5 false) (lv ++ vs143.take r.1) ((onWay L ps 0 r.1).map (·.1.b)) :: sl true 3 1 r.2.2.1 (tl + r.1) r.2.2.2 ((onWay L ps 0 r.1).map fun p => .int .i64 p.2) :: sl true 44 3 ad143 len143 cap143 (pktC ps vs143) :: allR (byt 5 false) vs143 (ps.map (·.b)) :: endR q0 e0 :: endR q1 { e1 with owing := false } :: sl true 33 1 (some ⟨eb, 0, none⟩) 2 2 [.pointer (some ⟨q0, 0, none⟩), .pointer (some ⟨q1, 0, none⟩)] :: sl true 42 1 (some ⟨b25, 0, none⟩) 2 2 [.slice sa0 sl0 sc0, .slice sa1 sl1 sc1] :: sl true 3 1 (some ⟨b26, 0, none⟩) 2 2 [.int .i64 e0.delivered, .int .i64 e1.delivered] :: sl true 31 1 sa0 sl0 sc0 sv0 :: allR (byt 5 false) sv0 s0 :: sl true 31 1 sa1 sl1 sc1 sv1 :: allR (byt 5 false) sv1 s1 :: slr 1 a1 len1 (zs.map (Value.int .i64)) :: F) (fun r => len143 - r.1) ((0, (la, lc), ta, tc)) (Nat.zero_le _) (by repeat (first | exact KK.nil | refine KK.cons (by first | rfl | (simp; done)) ?_)) (by (try dsimp only); rw [onWay_zero, List.take_zero, List.append_nil]; exact (by repeat (first | exact SelL.nil | exact SelL.self | apply SelL.cons | exact Sel.here | apply Sel.there | apply SelL.skip))) ?_
                    rintro ⟨j, ⟨la2, lc2⟩, ta2, tc2⟩ hj N2 hN2
                    dsimp only at hj ⊢
                    refine WK.seq ?_
                    refine WK.seq ?_
                    refine WK.region ?_
                    refine WL.yld (wanted_plain (by rfl)) (yld_move (by rfl)) (by rfl) (by decide) ?_
                    refine WL.yld (wanted_plain (by rfl)) (yld_move (by rfl)) (by rfl) (by decide) ?_
                    refine WL.yld (wanted_plain (by rfl)) (yld_len (by rfl) (by exact Try.runUnderlying35)) (by rfl) (by decide) ?_
                    refine WL.yld (wanted_plain (by rfl)) (yld_lss (by rfl) (by rfl)) (by rfl) (by decide) ?_
                    refine WL.done ?_
                    refine WK.cond (by rfl) (fun hc147 => ?_) (fun hc147 => ?_)
                    · skip
                      have hc147 := of_decide_eq_true hc147
                      refine WK.skip ?_
                      refine WK.seq ?_
                      refine WK.block ?_
                      refine WK.seq ?_
                      obtain ⟨p7, hp7⟩ : ∃ p, ps[j]? = some p := ⟨_, List.getElem?_eq_getElem (by omega)⟩
                      refine WK.openS (fun w s => Sat.allByt (k := j) (bs := p7.b) (by rw [List.getElem?_map, hp7]; rfl) (s.sel1 (A := allR (byt 5 false) vs143 (ps.map (·.b))) (by repeat (first | exact .here | apply Sel.there)))) ?_
                      rintro ⟨ad7, len7, cap7⟩ ⟨hv7, hl7⟩
                      dsimp only at hv7 hl7
                      subst hl7
                      try dsimp only [List.cons_append, List.nil_append]
                      refine WK.region ?_
                      refine WL.yld (wanted_plain (by rfl)) (yld_move (by rfl)) (by rfl) (by decide) ?_
                      refine WL.yld (wanted_plain (by rfl)) (yld_move (by rfl)) (by rfl) (by decide) ?_
                      refine WL.yld (wanted_plain (by rfl)) (yld_move (by rfl)) (by rfl) (by decide) ?_
                      refine WL.yld (wanted_plain (by rfl)) (yld_indexAddrS (by rfl) (by rfl) (by exact Try.runUnderlying35) (by exact Try.sizeOf44) (by repeat (first | exact .here | apply Sel.there)) (j) (by first | rfl | omega) (by omega) (by omega) (by rfl)) (by rfl) (by decide) ?_
                      refine WL.yld (wanted_plain (by rfl)) (yld_loadSA (by rfl) (by exact Try.isAgg44) (by exact Try.sizeOf44) (by repeat (first | exact .here | apply Sel.there)) (by exact pktC_cells (j := j) hp7 hv7)) (by rfl) (by decide) ?_
                      refine WL.eff (wanted_plain (by rfl)) (eff_mkSlice1 (by rfl) (by rfl) (by exact Try.runUnderlying35) (by exact Try.sizeOf44) (by exact Try.zeroValue44) (by rfl) (by rfl) (by decide) (by rfl)) (by rfl) (by decide) ?_
                      rintro b155 -
                      try dsimp only
                      refine WL.eff (wanted_plain (by rfl)) (eff_append (by rfl) (by rfl) (by exact elem35) (by exact Try.underlying35) (by repeat (first | exact SelL.nil | exact SelL.self | apply SelL.cons | exact Sel.here | apply Sel.there | apply SelL.skip)) (by omega) (by omega)) (by rfl) (by decide) ?_
                      rintro ⟨ad156, cap156⟩ -
                      try dsimp only
                      refine WL.yld (wanted_plain (by rfl)) (yld_assign (by rfl)) (by rfl) (by decide) ?_
                      refine WL.done ?_
                      refine WK.region ?_
                      refine WL.yld (wanted_plain (by rfl)) (yld_move (by rfl)) (by rfl) (by decide) ?_
                      refine WL.yld (wanted_plain (by rfl)) (yld_move (by rfl)) (by rfl) (by decide) ?_
                      refine WL.yld (wanted_plain (by rfl)) (yld_sub (by rfl) (by rfl) (by first | exact w64 (by omega) (by omega) | rfl)) (by rfl) (by decide) ?_
                      refine WL.eff (wanted_plain (by rfl)) (eff_mkSlice1 (by rfl) (by rfl) (by exact Try.runUnderlying22) (by exact Try.sizeOf3) (by exact Try.zeroValue3) (by rfl) (by rfl) (by decide) (by rfl)) (by rfl) (by decide) ?_
                      rintro b160 -
                      try dsimp only
                      refine WL.eff (wanted_plain (by rfl)) (eff_append (by rfl) (by rfl) (by exact elem22) (by exact Try.underlying22) (by repeat (first | exact SelL.nil | exact SelL.self | apply SelL.cons | exact Sel.here | apply Sel.there | apply SelL.skip)) (by omega) (by omega)) (by rfl) (by decide) ?_
                      rintro ⟨ad161, cap161⟩ -
                      try dsimp only
                      refine WL.yld (wanted_plain (by rfl)) (yld_assign (by rfl)) (by rfl) (by decide) ?_
                      refine WL.done ?_
                      refine WK.endBlock ?_
                      refine WK.region ?_
                      refine WL.yld (wanted_plain (by rfl)) (yld_move (by rfl)) (by rfl) (by decide) ?_
                      refine WL.yld (wanted_plain (by rfl)) (yld_add (by rfl) (by rfl) (by first | exact w64 (by omega) (by omega) | rfl)) (by rfl) (by decide) ?_
                      refine WL.yld (wanted_plain (by rfl)) (yld_assign (by rfl)) (by rfl) (by decide) ?_
                      refine WL.done ?_
                      have hlp : (onWay L ps 0 j).length = L.length + j := onWay_len (by omega)
                      have hvl : (lv ++ vs143.take j).length = lv.length + j := by rw [List.length_append, List.length_take]; omega
                      have htk : lv ++ vs143.take (j + 1) = (lv ++ vs143.take j) ++ [.slice ad7 p7.b.length cap7] := by rw [List.take_add_one, hv7, List.append_assoc]; rfl
                      refine WK.sat (fun w s => Sat.allSnoc ((s.sel1 (A := sl false 5 1 ad7 p7.b.length cap7 (p7.b.map bv)) (by repeat (first | exact .here | apply Sel.there))).bytShut.sel (As := [allR (byt 5 false) (lv ++ vs143.take j) ((onWay L ps 0 j).map (·.1.b)), byt 5 false (.slice ad7 p7.b.length cap7) p7.b]) (by repeat (first | exact SelL.nil | exact SelL.self | apply SelL.cons | exact Sel.here | apply Sel.there | apply SelL.skip)))) ?_
                      rw [show (1 - ((nn % 2 : Nat) : Int)) = ((0 : Nat) : Int) from by rw [hk]; rfl]
                      apply WK.next hN2 (j + 1, (ad156, cap156), ad161, cap161) (by dsimp only; omega) (by dsimp only; omega) (by repeat (first | exact KK.nil | refine KK.cons (by first | rfl | (simp; done)) ?_))
                      dsimp only
                      rw [onWay_succ hp7, htk]
                      simp only [List.map_append, List.map_cons, List.map_nil]
                      rw [pktC_snoc _ _ _ _ (by rw [List.length_map, hlp, hvl]; omega)]
                      exact (by repeat (first | exact SelL.nil | exact SelL.self | apply SelL.cons | exact Sel.here | apply Sel.there | apply SelL.skip))
                    · skip
                      have hc147 := of_decide_eq_false hc147
                      refine WK.exit ?_
                      repeat (first | refine XQ.then_ ?_ | refine XQ.block (by rfl) ?_)
                      refine XQ.here ?_
                      refine WK.endBlock ?_
                      exact WK.goto JB2 ⟨e0, { e1 with owing := false }, s0, s1, (onWay L ps 0 j), sa0, sl0, sc0, sv0, sa1, sl1, sc1, sv1, la2, (ll + j), lc2, (lv ++ vs143.take j), ta2, (tl + j), tc2⟩ ⟨v0.mono rfl (Nat.le_succ _), v1.mono rfl (Nat.le_succ _), (Dir.other d0 rfl rfl), (Dir.own d1 rfl rfl), (by dsimp only; omega), t0, t1, (fun p hp => (onWay_mem hp).elim (fun hp => (hlink p hp).imp (fun h => ⟨h.1, h.2.mono ⟨[], (List.append_nil _).symm⟩ (Int.le_refl _)⟩) (fun h => ⟨h.1, h.2.mono ⟨[], (List.append_nil _).symm⟩ (Int.le_refl _)⟩)) (fun h => .inr ⟨h.2, (hps _ h.1).mono ⟨[], (List.append_nil _).symm⟩ (Int.le_refl _)⟩)), (by dsimp only; rw [onWay_len (by omega)]; omega)⟩ (by repeat (first | exact KK.nil | refine KK.cons (by first | rfl | (simp; done)) ?_)) (by (try dsimp only [oL, List.cons_append, List.nil_append]); exact (by repeat (first | exact SelL.nil | exact SelL.self | apply SelL.cons | exact Sel.here | apply Sel.there | apply SelL.skip)))
                · skip
                  refine WK.seq ?_
                  refine WK.seq ?_
                  refine WK.region ?_
                  refine WL.yld (wanted_plain (by rfl)) (yld_move (by rfl)) (by rfl) (by decide) ?_
                  refine WL.yld (wanted_plain (by rfl)) (yld_len (by rfl) (by exact Try.runUnderlying35)) (by rfl) (by decide) ?_
                  refine WL.yld (wanted_plain (by rfl)) (yld_eql (by rfl) (by rfl)) (by rfl) (by decide) ?_
                  refine WL.done ?_
                  refine WK.cond (by rfl) (fun hc52 => ?_) (fun hc52 => ?_)
                  · skip
                    have hc52 := of_decide_eq_true hc52
                    refine WK.exit ?_
                    repeat (first | refine XQ.then_ ?_ | refine XQ.block (by rfl) ?_)
                    refine XQ.here ?_
                    refine WK.region ?_
                    refine WL.yld (wanted_plain (by rfl)) (yld_move (by rfl)) (by rfl) (by decide) ?_
                    refine WL.yld (wanted_plain (by rfl)) (yld_add (by rfl) (by rfl) (by first | exact w64 (by omega) (by omega) | rfl)) (by rfl) (by decide) ?_
                    refine WL.yld (wanted_plain (by rfl)) (yld_assign (by rfl)) (by rfl) (by decide) ?_
                    refine WL.done ?_
                    exact WK.next hN (i + 1, ⟨e0, e1, s0, s1, L, sa0, sl0, sc0, sv0, sa1, sl1, sc1, sv1, la, ll, lc, lv, ta, tl, tc⟩) ⟨by dsimp only; omega, hI.mono⟩ (by dsimp only; omega) (by repeat (first | exact KK.nil | refine KK.cons (by first | rfl | (simp; done)) ?_)) (by (try dsimp only [oL, List.cons_append, List.nil_append]); exact (by repeat (first | exact SelL.nil | exact SelL.self | apply SelL.cons | exact Sel.here | apply Sel.there | apply SelL.skip)))
                  · skip
                    have hc52 := of_decide_eq_false hc52
                    refine WK.skip ?_
                    refine WK.seq ?_
                    refine WK.region ?_
                    refine WL.yld (wanted_plain (by rfl)) (yld_move (by rfl)) (by rfl) (by decide) ?_
                    refine WL.yld (wanted_plain (by rfl)) (yld_quo (by rfl) (by rfl) (by omega) (by exact (IntWalk.i64_quo' (nn : Int) 2 ⟨by omega, by omega, by omega⟩).trans (tdivNat nn 2))) (by rfl) (by decide) ?_
                    refine WL.yld (wanted_plain (by rfl)) (yld_move (by rfl)) (by rfl) (by decide) ?_
                    refine WL.yld (wanted_plain (by rfl)) (yld_len (by rfl) (by exact Try.runUnderlying35)) (by rfl) (by decide) ?_
                    refine WL.yld (wanted_plain (by rfl)) (yld_rem (by rfl) (by rfl) (by omega) (by exact tmodNat (nn / 2) ll)) (by rfl) (by decide) ?_
                    refine WL.yld (wanted_plain (by rfl)) (yld_assign (by rfl)) (by rfl) (by decide) ?_
                    refine WL.done ?_
                    have hjj := Nat.mod_lt (nn / 2) (show 0 < ll by omega)
                    generalize nn / 2 % ll = jj at hjj ⊢
                    obtain ⟨⟨p, t⟩, hp⟩ : ∃ z, L[jj]? = some z := ⟨_, List.getElem?_eq_getElem (by omega)⟩
                    refine WK.seq ?_
                    refine WK.region ?_
                    refine WL.yld (wanted_plain (by rfl)) (yld_move (by rfl)) (by rfl) (by decide) ?_
                    refine WL.yld (wanted_plain (by rfl)) (yld_move (by rfl)) (by rfl) (by decide) ?_
                    refine WL.yld (wanted_plain (by rfl)) (yld_indexAddrS (by rfl) (by rfl) (by exact Try.runUnderlying22) (by exact Try.sizeOf3) (by repeat (first | exact .here | apply Sel.there)) (jj) (by first | rfl | omega) (by omega) (by omega) (by exact Nat.mul_one _)) (by rfl) (by decide) ?_
                    refine WL.yld (wanted_plain (by rfl)) (yld_loadS (by rfl) (by exact Try.isAgg3) (by repeat (first | exact .here | apply Sel.there)) (by rw [List.getElem?_map, hp]; rfl)) (by rfl) (by decide) ?_
                    rcases hlink _ (List.mem_of_getElem? hp) with ⟨ht, hpk⟩ | ⟨ht, hpk⟩
                    · skip
                      dsimp only at ht hpk
                      subst ht
                      refine WL.yld (wanted_plain (by rfl)) (yld_assign (by rfl)) (by rfl) (by decide) ?_
                      refine WL.done ?_
                      refine WK.seq ?_
                      refine WK.drawn (by kernel_rfl) [(0, 0), (1, 0), (2, 0), (3, 0), (4, 0), (5, 0), (6, 0), (7, 0), (8, 1), (9, 0)] [sl true 33 1 (some ⟨eb, 0, none⟩) 2 2 [.pointer (some ⟨q0, 0, none⟩), .pointer (some ⟨q1, 0, none⟩)], sl true 44 3 la ll lc (pktC (L.map (·.1)) lv)] (by kernel_rfl) (by kernel_rfl) (by kernel_rfl) ?_
                      refine WO.yld (by rfl) (wanted_plain (by rfl)) (yld_move (by rfl)) (by rfl) (by decide) (by repeat (first | exact SelL.nil | exact SelL.self | apply SelL.cons | exact Sel.here | apply Sel.there | apply SelL.skip)) ?_
                      refine WO.yld (by rfl) (wanted_plain (by rfl)) (yld_move (by rfl)) (by rfl) (by decide) (by repeat (first | exact SelL.nil | exact SelL.self | apply SelL.cons | exact Sel.here | apply Sel.there | apply SelL.skip)) ?_
                      refine WO.yld (by rfl) (wanted_plain (by rfl)) (yld_indexAddrS (by rfl) (by rfl) (by exact Try.runUnderlying23) (by exact Try.sizeOf33) (by repeat (first | exact .here | apply Sel.there)) (1) (by first | rfl | omega) (by omega) (by omega) (by exact Nat.mul_one _)) (by rfl) (by decide) (by repeat (first | exact SelL.nil | exact SelL.self | apply SelL.cons | exact Sel.here | apply Sel.there | apply SelL.skip)) ?_
                      refine WO.yld (by rfl) (wanted_plain (by rfl)) (yld_loadS (by rfl) (by exact Try.isAgg33) (by repeat (first | exact .here | apply Sel.there)) (by first | rfl | assumption | (simp; done) | (simp [*]; done))) (by rfl) (by decide) (by repeat (first | exact SelL.nil | exact SelL.self | apply SelL.cons | exact Sel.here | apply Sel.there | apply SelL.skip)) ?_
                      refine WO.yld (by rfl) (wanted_plain (by rfl)) (yld_move (by rfl)) (by rfl) (by decide) (by repeat (first | exact SelL.nil | exact SelL.self | apply SelL.cons | exact Sel.here | apply Sel.there | apply SelL.skip)) ?_
                      refine WO.yld (by rfl) (wanted_plain (by rfl)) (yld_move (by rfl)) (by rfl) (by decide) (by repeat (first | exact SelL.nil | exact SelL.self | apply SelL.cons | exact Sel.here | apply Sel.there | apply SelL.skip)) ?_
                      refine WO.yld (by rfl) (wanted_plain (by rfl)) (yld_indexAddrS (by rfl) (by rfl) (by exact Try.runUnderlying35) (by exact Try.sizeOf44) (by repeat (first | exact .here | apply Sel.there)) (jj) (by first | rfl | omega) (by omega) (by omega) (by rfl)) (by rfl) (by decide) (by repeat (first | exact SelL.nil | exact SelL.self | apply SelL.cons | exact Sel.here | apply Sel.there | apply SelL.skip)) ?_
                      refine WO.openS (fun w s => Sat.allByt (k := jj) (bs := p.b) (by rw [List.getElem?_map, hp]; rfl) (s.sel1 (A := allR (byt 5 false) lv (L.map (·.1.b))) (by repeat (first | exact .here | apply Sel.there)))) ?_
                      rintro ⟨ad6, len6, cap6⟩ ⟨hv6, hl6⟩
                      dsimp only at hv6 hl6
                      subst hl6
                      try dsimp only [List.cons_append, List.nil_append]
                      refine WO.yld (by rfl) (wanted_plain (by rfl)) (yld_loadSA (by rfl) (by exact Try.isAgg44) (by exact Try.sizeOf44) (by repeat (first | exact .here | apply Sel.there)) (by exact pktC_cells (j := jj) (by rw [List.getElem?_map, hp]; rfl) hv6)) (by rfl) (by decide) (by repeat (first | exact SelL.nil | exact SelL.self | apply SelL.cons | exact Sel.here | apply Sel.there | apply SelL.skip)) ?_
                      refine WO.eff (by rfl) (wanted_plain (by rfl)) (eff_call (by exact Try.call19) (by repeat (first | exact Evs.nil | apply Evs.cons | rfl)) (by repeat (first | exact SelL.nil | exact SelL.self | apply SelL.cons | exact Sel.here | apply Sel.there | apply SelL.skip)) (in_spec q1 e1 (Dir.inok v1 d1 d0 (by omega) (by omega) (by omega)) p false ad6 cap6)) (by rfl) (by decide) (by intro x; repeat (first | exact SelL.nil | exact SelL.self | apply SelL.cons | exact Sel.here | apply Sel.there | apply SelL.skip)) ?_
                      rintro ⟨ad70, len70, cap70, vs70⟩ hl70
                      obtain ⟨D, k, f1, f2, f3, f4, f5, f6, f7, f8, f9⟩ := Dir.inp d1 d0 hpk
                      have hdel : e1.delivered ≤ (inM e1 p).2.delivered := by omega
                      generalize (inM e1 p).1 = ms at hl70 f2 f3 ⊢
                      generalize (inM e1 p).2 = e9 at f4 f6 f7 f8 f9 hdel ⊢
                      dsimp only at hl70 ⊢
                      try dsimp only
                      refine WO.yld (by rfl) (wanted_plain (by rfl)) (yld_assign (by rfl)) (by rfl) (by decide) (by repeat (first | exact SelL.nil | exact SelL.self | apply SelL.cons | exact Sel.here | apply Sel.there | apply SelL.skip)) ?_
                      refine WO.done ?_
                      refine WK.seq ?_
                      refine WK.region ?_
                      refine WL.yld (wanted_plain (by rfl)) (yld_assign (by rfl)) (by rfl) (by decide) ?_
                      refine WL.done ?_
                      refine WK.block ?_
                      rw [f1]
                      refine WK.loop (ι := Nat) (fun r => r ≤ len70) (fun r => [(1, .slice a1 len1 cap1), (5, .slice (some ⟨eb, 0, none⟩) 2 2), (6, .slice (some ⟨b25, 0, none⟩) 2 2), (7, .slice (some ⟨b26, 0, none⟩) 2 2), (8, .slice la ll lc), (9, .slice ta tl tc), (10, .int .i64 (i : Int)), (17, .int .i64 (1 : Int)), (18, .slice ad70 len70 cap70), (19, .int .i64 (r : Int))]) (fun r => sl true 3 1 (some ⟨b26, 0, none⟩) 2 2 [.int .i64 e0.delivered, .int .i64 ((D + r : Nat) : Int)] :: endR q0 e0 :: endR q1 e9 :: sl true 31 1 ad70 len70 cap70 vs70 :: allR (byt 5 false) vs70 ms :: sl true 33 1 (some ⟨eb, 0, none⟩) 2 2 [.pointer (some ⟨q0, 0, none⟩), .pointer (some ⟨q1, 0, none⟩)] :: sl true 42 1 (some ⟨b25, 0, none⟩) 2 2 [.slice sa0 sl0 sc0, .slice sa1 sl1 sc1] :: sl true 31 1 sa0 sl0 sc0 sv0 :: allR (byt 5 false) sv0 s0 :: sl true 31 1 sa1 sl1 sc1 sv1 :: allR (byt 5 false) sv1 s1 :: sl true 44 3 la ll lc (pktC (L.map (·.1)) lv) :: allR (byt 5 false) lv (L.map (·.1.b)) :: sl true 3 1 ta tl tc (L.map fun p => .int .i64 p.2) :: slr 1 a1 len1 (zs.map (Value.int .i64)) :: F) (fun r => len70 - r) (0) (Nat.zero_le _) (by repeat (first | exact KK.nil | refine KK.cons (by first | rfl | (simp; done)) ?_)) (by repeat (first | exact SelL.nil | exact SelL.self | apply SelL.cons | exact Sel.here | apply Sel.there | apply SelL.skip)) ?_
                      rintro r hr N3 hN3
                      refine WK.seq ?_
                      refine WK.seq ?_
                      refine WK.region ?_
                      refine WL.yld (wanted_plain (by rfl)) (yld_move (by rfl)) (by rfl) (by decide) ?_
                      refine WL.yld (wanted_plain (by rfl)) (yld_move (by rfl)) (by rfl) (by decide) ?_
                      refine WL.yld (wanted_plain (by rfl)) (yld_len (by rfl) (by exact Try.runUnderlying42)) (by rfl) (by decide) ?_
                      refine WL.yld (wanted_plain (by rfl)) (yld_lss (by rfl) (by rfl)) (by rfl) (by decide) ?_
                      refine WL.done ?_
                      refine WK.cond (by rfl) (fun hc74 => ?_) (fun hc74 => ?_)
                      · skip
                        have hc74 := of_decide_eq_true hc74
                        refine WK.skip ?_
                        refine WK.seq ?_
                        refine WK.block ?_
                        refine WK.seq ?_
                        refine WK.seq ?_
                        have hms : ms[r]? = s0[D + r]? := by rw [f2, List.getElem?_take, if_pos (by omega), List.getElem?_drop]
                        obtain ⟨b, hb⟩ : ∃ b, s0[D + r]? = some b := ⟨_, List.getElem?_eq_getElem (by omega)⟩
                        rw [hb] at hms
                        have hb2 := t0 b (List.mem_of_getElem? hb)
                        refine WK.openS (fun w s => Sat.allByt hms (s.sel1 (A := allR (byt 5 false) vs70 ms) (by repeat (first | exact .here | apply Sel.there)))) ?_
                        rintro ⟨ad7, len7, cap7⟩ ⟨hv7, hl7⟩
                        refine WK.openS (fun w s => Sat.allByt hb (s.sel1 (A := allR (byt 5 false) sv0 s0) (by repeat (first | exact .here | apply Sel.there)))) ?_
                        rintro ⟨ad8, len8, cap8⟩ ⟨hv8, hl8⟩
                        dsimp only at hv7 hl7 hv8 hl8
                        try dsimp only [List.cons_append, List.nil_append]
                        refine WK.drawn (by kernel_rfl) [(0, 0), (1, 0), (2, 0), (3, 0), (4, 0), (5, 0), (6, 0), (7, 0), (8, 0), (9, 0), (10, 0), (11, 0), (12, 0), (13, 0), (14, 0), (15, 0), (16, 0), (17, 0), (18, 0), (19, 0), (20, 0), (21, 0), (22, 0), (23, 0), (24, 0), (25, 0), (26, 0), (27, 1), (28, 0), (29, 0)] [sl true 3 1 (some ⟨b26, 0, none⟩) 2 2 [.int .i64 e0.delivered, .int .i64 ((D + r : Nat) : Int)], sl true 42 1 (some ⟨b25, 0, none⟩) 2 2 [.slice sa0 sl0 sc0, .slice sa1 sl1 sc1], sl true 31 1 ad70 len70 cap70 vs70, sl true 31 1 sa0 sl0 sc0 sv0] (by kernel_rfl) (by kernel_rfl) (by kernel_rfl) ?_
                        refine WO.yld (by rfl) (wanted_plain (by rfl)) (yld_move (by rfl)) (by rfl) (by decide) (by repeat (first | exact SelL.nil | exact SelL.self | apply SelL.cons | exact Sel.here | apply Sel.there | apply SelL.skip)) ?_
                        refine WO.yld (by rfl) (wanted_plain (by rfl)) (yld_move (by rfl)) (by rfl) (by decide) (by repeat (first | exact SelL.nil | exact SelL.self | apply SelL.cons | exact Sel.here | apply Sel.there | apply SelL.skip)) ?_
                        refine WO.yld (by rfl) (wanted_plain (by rfl)) (yld_indexAddrS (by rfl) (by rfl) (by exact Try.runUnderlying22) (by exact Try.sizeOf3) (by repeat (first | exact .here | apply Sel.there)) (1) (by first | rfl | omega) (by omega) (by omega) (by exact Nat.mul_one _)) (by rfl) (by decide) (by repeat (first | exact SelL.nil | exact SelL.self | apply SelL.cons | exact Sel.here | apply Sel.there | apply SelL.skip)) ?_
                        refine WO.yld (by rfl) (wanted_plain (by rfl)) (yld_loadS (by rfl) (by exact Try.isAgg3) (by repeat (first | exact .here | apply Sel.there)) (by first | rfl | assumption | (simp; done) | (simp [*]; done))) (by rfl) (by decide) (by repeat (first | exact SelL.nil | exact SelL.self | apply SelL.cons | exact Sel.here | apply Sel.there | apply SelL.skip)) ?_
                        refine WO.yld (by rfl) (wanted_plain (by rfl)) (yld_move (by rfl)) (by rfl) (by decide) (by repeat (first | exact SelL.nil | exact SelL.self | apply SelL.cons | exact Sel.here | apply Sel.there | apply SelL.skip)) ?_
                        refine WO.yld (by rfl) (wanted_plain (by rfl)) (yld_move (by rfl)) (by rfl) (by decide) (by repeat (first | exact SelL.nil | exact SelL.self | apply SelL.cons | exact Sel.here | apply Sel.there | apply SelL.skip)) ?_
                        refine WO.yld (by rfl) (wanted_plain (by rfl)) (yld_sub (by rfl) (by rfl) (by rfl)) (by rfl) (by decide) (by repeat (first | exact SelL.nil | exact SelL.self | apply SelL.cons | exact Sel.here | apply Sel.there | apply SelL.skip)) ?_
                        refine WO.yld (by rfl) (wanted_plain (by rfl)) (yld_indexAddrS (by rfl) (by rfl) (by exact Try.runUnderlying53) (by exact Try.sizeOf42) (by repeat (first | exact .here | apply Sel.there)) (0) (by first | rfl | omega) (by omega) (by omega) (by exact Nat.mul_one _)) (by rfl) (by decide) (by repeat (first | exact SelL.nil | exact SelL.self | apply SelL.cons | exact Sel.here | apply Sel.there | apply SelL.skip)) ?_
                        refine WO.yld (by rfl) (wanted_plain (by rfl)) (yld_loadS (by rfl) (by exact Try.isAgg42) (by repeat (first | exact .here | apply Sel.there)) (by first | rfl | assumption | (simp; done) | (simp [*]; done))) (by rfl) (by decide) (by repeat (first | exact SelL.nil | exact SelL.self | apply SelL.cons | exact Sel.here | apply Sel.there | apply SelL.skip)) ?_
                        refine WO.yld (by rfl) (wanted_plain (by rfl)) (yld_len (by rfl) (by exact Try.runUnderlying42)) (by rfl) (by decide) (by repeat (first | exact SelL.nil | exact SelL.self | apply SelL.cons | exact Sel.here | apply Sel.there | apply SelL.skip)) ?_
                        refine WO.yld (by rfl) (wanted_plain (by rfl)) (yld_geq (by rfl) (by rfl)) (by rfl) (by decide) (by repeat (first | exact SelL.nil | exact SelL.self | apply SelL.cons | exact Sel.here | apply Sel.there | apply SelL.skip)) ?_
                        refine WO.yld (by rfl) (wanted_plain (by rfl)) (yld_move (by rfl)) (by rfl) (by decide) (by repeat (first | exact SelL.nil | exact SelL.self | apply SelL.cons | exact Sel.here | apply Sel.there | apply SelL.skip)) ?_
                        refine WO.split (d := 88) (by rfl) (fun hc88 => ?_) (fun hc88 => ?_)
                        · skip
                          have hc88 := of_decide_eq_true hc88
                          omega
                        · skip
                          have hc88 := of_decide_eq_false hc88
                          refine WO.yld (by rfl) (wanted_some (by rfl) (by rfl) (by rfl)) (yld_move (by rfl)) (by rfl) (by decide) (by repeat (first | exact SelL.nil | exact SelL.self | apply SelL.cons | exact Sel.here | apply Sel.there | apply SelL.skip)) ?_
                          refine WO.yld (by rfl) (wanted_some (by rfl) (by rfl) (by rfl)) (yld_move (by rfl)) (by rfl) (by decide) (by repeat (first | exact SelL.nil | exact SelL.self | apply SelL.cons | exact Sel.here | apply Sel.there | apply SelL.skip)) ?_
                          refine WO.yld (by rfl) (wanted_some (by rfl) (by rfl) (by rfl)) (yld_indexAddrS (by rfl) (by rfl) (by exact Try.runUnderlying42) (by exact Try.sizeOf31) (by repeat (first | exact .here | apply Sel.there)) (r) (by first | rfl | omega) (by omega) (by omega) (by exact Nat.mul_one _)) (by rfl) (by decide) (by repeat (first | exact SelL.nil | exact SelL.self | apply SelL.cons | exact Sel.here | apply Sel.there | apply SelL.skip)) ?_
                          refine WO.yld (by rfl) (wanted_some (by rfl) (by rfl) (by rfl)) (yld_loadS (by rfl) (by exact Try.isAgg31) (by repeat (first | exact .here | apply Sel.there)) (by exact hv7)) (by rfl) (by decide) (by repeat (first | exact SelL.nil | exact SelL.self | apply SelL.cons | exact Sel.here | apply Sel.there | apply SelL.skip)) ?_
                          refine WO.yld (by rfl) (wanted_some (by rfl) (by rfl) (by rfl)) (yld_move (by rfl)) (by rfl) (by decide) (by repeat (first | exact SelL.nil | exact SelL.self | apply SelL.cons | exact Sel.here | apply Sel.there | apply SelL.skip)) ?_
                          refine WO.yld (by rfl) (wanted_some (by rfl) (by rfl) (by rfl)) (yld_move (by rfl)) (by rfl) (by decide) (by repeat (first | exact SelL.nil | exact SelL.self | apply SelL.cons | exact Sel.here | apply Sel.there | apply SelL.skip)) ?_
                          refine WO.yld (by rfl) (wanted_some (by rfl) (by rfl) (by rfl)) (yld_sub (by rfl) (by rfl) (by rfl)) (by rfl) (by decide) (by repeat (first | exact SelL.nil | exact SelL.self | apply SelL.cons | exact Sel.here | apply Sel.there | apply SelL.skip)) ?_
                          refine WO.yld (by rfl) (wanted_some (by rfl) (by rfl) (by rfl)) (yld_indexAddrS (by rfl) (by rfl) (by exact Try.runUnderlying53) (by exact Try.sizeOf42) (by repeat (first | exact .here | apply Sel.there)) (0) (by first | rfl | omega) (by omega) (by omega) (by exact Nat.mul_one _)) (by rfl) (by decide) (by repeat (first | exact SelL.nil | exact SelL.self | apply SelL.cons | exact Sel.here | apply Sel.there | apply SelL.skip)) ?_
                          refine WO.yld (by rfl) (wanted_some (by rfl) (by rfl) (by rfl)) (yld_loadS (by rfl) (by exact Try.isAgg42) (by repeat (first | exact .here | apply Sel.there)) (by first | rfl | assumption | (simp; done) | (simp [*]; done))) (by rfl) (by decide) (by repeat (first | exact SelL.nil | exact SelL.self | apply SelL.cons | exact Sel.here | apply Sel.there | apply SelL.skip)) ?_
                          refine WO.yld (by rfl) (wanted_some (by rfl) (by rfl) (by rfl)) (yld_move (by rfl)) (by rfl) (by decide) (by repeat (first | exact SelL.nil | exact SelL.self | apply SelL.cons | exact Sel.here | apply Sel.there | apply SelL.skip)) ?_
                          refine WO.yld (by rfl) (wanted_some (by rfl) (by rfl) (by rfl)) (yld_move (by rfl)) (by rfl) (by decide) (by repeat (first | exact SelL.nil | exact SelL.self | apply SelL.cons | exact Sel.here | apply Sel.there | apply SelL.skip)) ?_
                          refine WO.yld (by rfl) (wanted_some (by rfl) (by rfl) (by rfl)) (yld_indexAddrS (by rfl) (by rfl) (by exact Try.runUnderlying22) (by exact Try.sizeOf3) (by repeat (first | exact .here | apply Sel.there)) (1) (by first | rfl | omega) (by omega) (by omega) (by exact Nat.mul_one _)) (by rfl) (by decide) (by repeat (first | exact SelL.nil | exact SelL.self | apply SelL.cons | exact Sel.here | apply Sel.there | apply SelL.skip)) ?_
                          refine WO.yld (by rfl) (wanted_some (by rfl) (by rfl) (by rfl)) (yld_loadS (by rfl) (by exact Try.isAgg3) (by repeat (first | exact .here | apply Sel.there)) (by first | rfl | assumption | (simp; done) | (simp [*]; done))) (by rfl) (by decide) (by repeat (first | exact SelL.nil | exact SelL.self | apply SelL.cons | exact Sel.here | apply Sel.there | apply SelL.skip)) ?_
                          refine WO.yld (by rfl) (wanted_some (by rfl) (by rfl) (by rfl)) (yld_indexAddrS (by rfl) (by rfl) (by exact Try.runUnderlying42) (by exact Try.sizeOf31) (by repeat (first | exact .here | apply Sel.there)) (D + r) (by first | rfl | omega) (by omega) (by omega) (by exact Nat.mul_one _)) (by rfl) (by decide) (by repeat (first | exact SelL.nil | exact SelL.self | apply SelL.cons | exact Sel.here | apply Sel.there | apply SelL.skip)) ?_
                          refine WO.yld (by rfl) (wanted_some (by rfl) (by rfl) (by rfl)) (yld_loadS (by rfl) (by exact Try.isAgg31) (by repeat (first | exact .here | apply Sel.there)) (by exact hv8)) (by rfl) (by decide) (by repeat (first | exact SelL.nil | exact SelL.self | apply SelL.cons | exact Sel.here | apply Sel.there | apply SelL.skip)) ?_
                          refine WO.eff (by rfl) (wanted_some (by rfl) (by rfl) (by rfl)) (eff_call (by exact Try.call24) (by repeat (first | exact Evs.nil | apply Evs.cons | rfl)) (by repeat (first | exact SelL.nil | exact SelL.self | apply SelL.cons | exact Sel.here | apply Sel.there | apply SelL.skip)) (sameBytes_spec false false ad7 ad8 len7 cap7 len8 cap8 b b (by omega))) (by rfl) (by decide) (by intro x; repeat (first | exact SelL.nil | exact SelL.self | apply SelL.cons | exact Sel.here | apply Sel.there | apply SelL.skip)) ?_
                          rintro _ -
                          rw [decide_eq_true rfl]
                          try dsimp only
                          refine WO.yld (by rfl) (wanted_some (by rfl) (by rfl) (by rfl)) (yld_not (by rfl)) (by rfl) (by decide) (by repeat (first | exact SelL.nil | exact SelL.self | apply SelL.cons | exact Sel.here | apply Sel.there | apply SelL.skip)) ?_
                          refine WO.yld (by rfl) (wanted_plain (by rfl)) (yld_pick_false (by rfl) (by rfl)) (by rfl) (by decide) (by repeat (first | exact SelL.nil | exact SelL.self | apply SelL.cons | exact Sel.here | apply Sel.there | apply SelL.skip)) ?_
                          refine WO.done ?_
                          refine WK.cond (by rfl) (fun h => by cases h) (fun _ => ?_)
                          refine WK.skip ?_
                          refine WK.region ?_
                          refine WL.yld (wanted_plain (by rfl)) (yld_move (by rfl)) (by rfl) (by decide) ?_
                          refine WL.yld (wanted_plain (by rfl)) (yld_move (by rfl)) (by rfl) (by decide) ?_
                          refine WL.yld (wanted_plain (by rfl)) (yld_indexAddrS (by rfl) (by rfl) (by exact Try.runUnderlying22) (by exact Try.sizeOf3) (by repeat (first | exact .here | apply Sel.there)) (1) (by first | rfl | omega) (by omega) (by omega) (by exact Nat.mul_one _)) (by rfl) (by decide) ?_
                          refine WL.yld (wanted_plain (by rfl)) (yld_loadS (by rfl) (by exact Try.isAgg3) (by repeat (first | exact .here | apply Sel.there)) (by first | rfl | assumption | (simp; done) | (simp [*]; done))) (by rfl) (by decide) ?_
                          refine WL.yld (wanted_plain (by rfl)) (yld_add (by rfl) (by rfl) (by first | exact w64 (by omega) (by omega) | rfl)) (by rfl) (by decide) ?_
                          refine WL.yld (wanted_plain (by rfl)) (yld_indexAddrS (by rfl) (by rfl) (by exact Try.runUnderlying22) (by exact Try.sizeOf3) (by repeat (first | exact .here | apply Sel.there)) (1) (by first | rfl | omega) (by omega) (by omega) (by exact Nat.mul_one _)) (by rfl) (by decide) ?_
                          refine WL.eff0 (wanted_plain (by rfl)) (eff_storeS (by rfl) (by rfl) (by exact Try.sizeOf3) (by rfl) (by rfl) (by rfl) (by simp) (by repeat (first | exact .here | apply Sel.there)) (by repeat (first | exact SetAts.nil | apply SetAts.cons | exact SetAt.here | apply SetAt.there))) (by rfl) ?_
                          rintro _ -
                          try dsimp only
                          refine WL.done ?_
                          refine WK.endBlock ?_
                          refine WK.region ?_
                          refine WL.yld (wanted_plain (by rfl)) (yld_move (by rfl)) (by rfl) (by decide) ?_
                          refine WL.yld (wanted_plain (by rfl)) (yld_add (by rfl) (by rfl) (by first | exact w64 (by omega) (by omega) | rfl)) (by rfl) (by decide) ?_
                          refine WL.yld (wanted_plain (by rfl)) (yld_assign (by rfl)) (by rfl) (by decide) ?_
                          refine WL.done ?_
                          exact WK.next hN3 (r + 1) (by omega) (by omega) (by repeat (first | exact KK.nil | refine KK.cons (by first | rfl | (simp; done)) ?_)) (by repeat (first | exact SelL.nil | exact SelL.self | apply SelL.cons | exact Sel.here | apply Sel.there | apply SelL.skip))
                      · skip
                        have hc74 := of_decide_eq_false hc74
                        refine WK.exit ?_
                        repeat (first | refine XQ.then_ ?_ | refine XQ.block (by rfl) ?_)
                        refine XQ.here ?_
                        refine WK.endBlock ?_
                        obtain rfl : r = k := by omega
                        rw [← f4]
                        exact WK.goto JB2 ⟨e0, e9, s0, s1, L, sa0, sl0, sc0, sv0, sa1, sl1, sc1, sv1, la, ll, lc, lv, ta, tl, tc⟩ ⟨(v0.mono rfl (Nat.le_succ _)), (v1.mono f9 f8), f7, f6, (by dsimp only; omega), t0, t1, (fun p hp => (hlink p hp).imp (fun h => ⟨h.1, h.2.mono ⟨[], (List.append_nil _).symm⟩ (Int.le_refl _)⟩) (fun h => ⟨h.1, h.2.mono ⟨[], (List.append_nil _).symm⟩ hdel⟩)), (by dsimp only; omega)⟩ (by repeat (first | exact KK.nil | refine KK.cons (by first | rfl | (simp; done)) ?_)) (by (try dsimp only [oL, List.cons_append, List.nil_append]); exact (by repeat (first | exact SelL.nil | exact SelL.self | apply SelL.cons | exact Sel.here | apply Sel.there | apply SelL.skip)))
                    · skip
                      dsimp only at ht hpk
                      subst ht
                      refine WL.yld (wanted_plain (by rfl)) (yld_assign (by rfl)) (by rfl) (by decide) ?_
                      refine WL.done ?_
                      refine WK.seq ?_
                      refine WK.drawn (by kernel_rfl) [(0, 0), (1, 0), (2, 0), (3, 0), (4, 0), (5, 0), (6, 0), (7, 0), (8, 1), (9, 0)] [sl true 33 1 (some ⟨eb, 0, none⟩) 2 2 [.pointer (some ⟨q0, 0, none⟩), .pointer (some ⟨q1, 0, none⟩)], sl true 44 3 la ll lc (pktC (L.map (·.1)) lv)] (by kernel_rfl) (by kernel_rfl) (by kernel_rfl) ?_
                      refine WO.yld (by rfl) (wanted_plain (by rfl)) (yld_move (by rfl)) (by rfl) (by decide) (by repeat (first | exact SelL.nil | exact SelL.self | apply SelL.cons | exact Sel.here | apply Sel.there | apply SelL.skip)) ?_
                      refine WO.yld (by rfl) (wanted_plain (by rfl)) (yld_move (by rfl)) (by rfl) (by decide) (by repeat (first | exact SelL.nil | exact SelL.self | apply SelL.cons | exact Sel.here | apply Sel.there | apply SelL.skip)) ?_
                      refine WO.yld (by rfl) (wanted_plain (by rfl)) (yld_indexAddrS (by rfl) (by rfl) (by exact Try.runUnderlying23) (by exact Try.sizeOf33) (by repeat (first | exact .here | apply Sel.there)) (0) (by first | rfl | omega) (by omega) (by omega) (by exact Nat.mul_one _)) (by rfl) (by decide) (by repeat (first | exact SelL.nil | exact SelL.self | apply SelL.cons | exact Sel.here | apply Sel.there | apply SelL.skip)) ?_
                      refine WO.yld (by rfl) (wanted_plain (by rfl)) (yld_loadS (by rfl) (by exact Try.isAgg33) (by repeat (first | exact .here | apply Sel.there)) (by first | rfl | assumption | (simp; done) | (simp [*]; done))) (by rfl) (by decide) (by repeat (first | exact SelL.nil | exact SelL.self | apply SelL.cons | exact Sel.here | apply Sel.there | apply SelL.skip)) ?_
                      refine WO.yld (by rfl) (wanted_plain (by rfl)) (yld_move (by rfl)) (by rfl) (by decide) (by repeat (first | exact SelL.nil | exact SelL.self | apply SelL.cons | exact Sel.here | apply Sel.there | apply SelL.skip)) ?_
                      refine WO.yld (by rfl) (wanted_plain (by rfl)) (yld_move (by rfl)) (by rfl) (by decide) (by repeat (first | exact SelL.nil | exact SelL.self | apply SelL.cons | exact Sel.here | apply Sel.there | apply SelL.skip)) ?_
                      refine WO.yld (by rfl) (wanted_plain (by rfl)) (yld_indexAddrS (by rfl) (by rfl) (by exact Try.runUnderlying35) (by exact Try.sizeOf44) (by repeat (first | exact .here | apply Sel.there)) (jj) (by first | rfl | omega) (by omega) (by omega) (by rfl)) (by rfl) (by decide) (by repeat (first | exact SelL.nil | exact SelL.self | apply SelL.cons | exact Sel.here | apply Sel.there | apply SelL.skip)) ?_
                      refine WO.openS (fun w s => Sat.allByt (k := jj) (bs := p.b) (by rw [List.getElem?_map, hp]; rfl) (s.sel1 (A := allR (byt 5 false) lv (L.map (·.1.b))) (by repeat (first | exact .here | apply Sel.there)))) ?_
                      rintro ⟨ad6, len6, cap6⟩ ⟨hv6, hl6⟩
                      dsimp only at hv6 hl6
                      subst hl6
                      try dsimp only [List.cons_append, List.nil_append]
                      refine WO.yld (by rfl) (wanted_plain (by rfl)) (yld_loadSA (by rfl) (by exact Try.isAgg44) (by exact Try.sizeOf44) (by repeat (first | exact .here | apply Sel.there)) (by exact pktC_cells (j := jj) (by rw [List.getElem?_map, hp]; rfl) hv6)) (by rfl) (by decide) (by repeat (first | exact SelL.nil | exact SelL.self | apply SelL.cons | exact Sel.here | apply Sel.there | apply SelL.skip)) ?_
                      refine WO.eff (by rfl) (wanted_plain (by rfl)) (eff_call (by exact Try.call19) (by repeat (first | exact Evs.nil | apply Evs.cons | rfl)) (by repeat (first | exact SelL.nil | exact SelL.self | apply SelL.cons | exact Sel.here | apply Sel.there | apply SelL.skip)) (in_spec q0 e0 (Dir.inok v0 d0 d1 (by omega) (by omega) (by omega)) p false ad6 cap6)) (by rfl) (by decide) (by intro x; repeat (first | exact SelL.nil | exact SelL.self | apply SelL.cons | exact Sel.here | apply Sel.there | apply SelL.skip)) ?_
                      rintro ⟨ad70, len70, cap70, vs70⟩ hl70
                      obtain ⟨D, k, f1, f2, f3, f4, f5, f6, f7, f8, f9⟩ := Dir.inp d0 d1 hpk
                      have hdel : e0.delivered ≤ (inM e0 p).2.delivered := by omega
                      generalize (inM e0 p).1 = ms at hl70 f2 f3 ⊢
                      generalize (inM e0 p).2 = e9 at f4 f6 f7 f8 f9 hdel ⊢
                      dsimp only at hl70 ⊢
                      try dsimp only
                      refine WO.yld (by rfl) (wanted_plain (by rfl)) (yld_assign (by rfl)) (by rfl) (by decide) (by repeat (first | exact SelL.nil | exact SelL.self | apply SelL.cons | exact Sel.here | apply Sel.there | apply SelL.skip)) ?_
                      refine WO.done ?_
                      refine WK.seq ?_
                      refine WK.region ?_
                      refine WL.yld (wanted_plain (by rfl)) (yld_assign (by rfl)) (by rfl) (by decide) ?_
                      refine WL.done ?_
                      refine WK.block ?_
                      rw [f1]
                      refine WK.loop (ι := Nat) (fun r => r ≤ len70) (fun r => [(1, .slice a1 len1 cap1), (5, .slice (some ⟨eb, 0, none⟩) 2 2), (6, .slice (some ⟨b25, 0, none⟩) 2 2), (7, .slice (some ⟨b26, 0, none⟩) 2 2), (8, .slice la ll lc), (9, .slice ta tl tc), (10, .int .i64 (i : Int)), (17, .int .i64 (0 : Int)), (18, .slice ad70 len70 cap70), (19, .int .i64 (r : Int))]) (fun r => sl true 3 1 (some ⟨b26, 0, none⟩) 2 2 [.int .i64 ((D + r : Nat) : Int), .int .i64 e1.delivered] :: endR q0 e9 :: endR q1 e1 :: sl true 31 1 ad70 len70 cap70 vs70 :: allR (byt 5 false) vs70 ms :: sl true 33 1 (some ⟨eb, 0, none⟩) 2 2 [.pointer (some ⟨q0, 0, none⟩), .pointer (some ⟨q1, 0, none⟩)] :: sl true 42 1 (some ⟨b25, 0, none⟩) 2 2 [.slice sa0 sl0 sc0, .slice sa1 sl1 sc1] :: sl true 31 1 sa0 sl0 sc0 sv0 :: allR (byt 5 false) sv0 s0 :: sl true 31 1 sa1 sl1 sc1 sv1 :: allR (byt 5 false) sv1 s1 :: sl true 44 3 la ll lc (pktC (L.map (·.1)) lv) :: allR (byt 5 false) lv (L.map (·.1.b)) :: sl true 3 1 ta tl tc (L.map fun p => .int .i64 p.2) :: slr 1 a1 len1 (zs.map (Value.int .i64)) :: F) (fun r => len70 - r) (0) (Nat.zero_le _) (by repeat (first | exact KK.nil | refine KK.cons (by first | rfl | (simp; done)) ?_)) (by repeat (first | exact SelL.nil | exact SelL.self | apply SelL.cons | exact Sel.here | apply Sel.there | apply SelL.skip)) ?_
                      rintro r hr N3 hN3
                      refine WK.seq ?_
                      refine WK.seq ?_
                      refine WK.region ?_
                      refine WL.yld (wanted_plain (by rfl)) (yld_move (by rfl)) (by rfl) (by decide) ?_
                      refine WL.yld (wanted_plain (by rfl)) (yld_move (by rfl)) (by rfl) (by decide) ?_
                      refine WL.yld (wanted_plain (by rfl)) (yld_len (by rfl) (by exact Try.runUnderlying42)) (by rfl) (by decide) ?_
                      refine WL.yld (wanted_plain (by rfl)) (yld_lss (by rfl) (by rfl)) (by rfl) (by decide) ?_
                      refine WL.done ?_
                      refine WK.cond (by rfl) (fun hc74 => ?_) (fun hc74 => ?_)
                      · skip
                        have hc74 := of_decide_eq_true hc74
                        refine WK.skip ?_
                        refine WK.seq ?_
                        refine WK.block ?_
                        refine WK.seq ?_
                        refine WK.seq ?_
                        have hms : ms[r]? = s1[D + r]? := by rw [f2, List.getElem?_take, if_pos (by omega), List.getElem?_drop]
                        obtain ⟨b, hb⟩ : ∃ b, s1[D + r]? = some b := ⟨_, List.getElem?_eq_getElem (by omega)⟩
                        rw [hb] at hms
                        have hb2 := t1 b (List.mem_of_getElem? hb)
                        refine WK.openS (fun w s => Sat.allByt hms (s.sel1 (A := allR (byt 5 false) vs70 ms) (by repeat (first | exact .here | apply Sel.there)))) ?_
                        rintro ⟨ad7, len7, cap7⟩ ⟨hv7, hl7⟩
                        refine WK.openS (fun w s => Sat.allByt hb (s.sel1 (A := allR (byt 5 false) sv1 s1) (by repeat (first | exact .here | apply Sel.there)))) ?_
                        rintro ⟨ad8, len8, cap8⟩ ⟨hv8, hl8⟩
                        dsimp only at hv7 hl7 hv8 hl8
                        try dsimp only [List.cons_append, List.nil_append]
                        refine WK.drawn (by kernel_rfl) [(0, 0), (1, 0), (2, 0), (3, 0), (4, 0), (5, 0), (6, 0), (7, 0), (8, 0), (9, 0), (10, 0), (11, 0), (12, 0), (13, 0), (14, 0), (15, 0), (16, 0), (17, 0), (18, 0), (19, 0), (20, 0), (21, 0), (22, 0), (23, 0), (24, 0), (25, 0), (26, 0), (27, 1), (28, 0), (29, 0)] [sl true 3 1 (some ⟨b26, 0, none⟩) 2 2 [.int .i64 ((D + r : Nat) : Int), .int .i64 e1.delivered], sl true 42 1 (some ⟨b25, 0, none⟩) 2 2 [.slice sa0 sl0 sc0, .slice sa1 sl1 sc1], sl true 31 1 ad70 len70 cap70 vs70, sl true 31 1 sa1 sl1 sc1 sv1] (by kernel_rfl) (by kernel_rfl) (by kernel_rfl) ?_
                        refine WO.yld (by rfl) (wanted_plain (by rfl)) (yld_move (by rfl)) (by rfl) (by decide) (by repeat (first | exact SelL.nil | exact SelL.self | apply SelL.cons | exact Sel.here | apply Sel.there | apply SelL.skip)) ?_
                        refine WO.yld (by rfl) (wanted_plain (by rfl)) (yld_move (by rfl)) (by rfl) (by decide) (by repeat (first | exact SelL.nil | exact SelL.self | apply SelL.cons | exact Sel.here | apply Sel.there | apply SelL.skip)) ?_
                        refine WO.yld (by rfl) (wanted_plain (by rfl)) (yld_indexAddrS (by rfl) (by rfl) (by exact Try.runUnderlying22) (by exact Try.sizeOf3) (by repeat (first | exact .here | apply Sel.there)) (0) (by first | rfl | omega) (by omega) (by omega) (by exact Nat.mul_one _)) (by rfl) (by decide) (by repeat (first | exact SelL.nil | exact SelL.self | apply SelL.cons | exact Sel.here | apply Sel.there | apply SelL.skip)) ?_
                        refine WO.yld (by rfl) (wanted_plain (by rfl)) (yld_loadS (by rfl) (by exact Try.isAgg3) (by repeat (first | exact .here | apply Sel.there)) (by first | rfl | assumption | (simp; done) | (simp [*]; done))) (by rfl) (by decide) (by repeat (first | exact SelL.nil | exact SelL.self | apply SelL.cons | exact Sel.here | apply Sel.there | apply SelL.skip)) ?_
                        refine WO.yld (by rfl) (wanted_plain (by rfl)) (yld_move (by rfl)) (by rfl) (by decide) (by repeat (first | exact SelL.nil | exact SelL.self | apply SelL.cons | exact Sel.here | apply Sel.there | apply SelL.skip)) ?_
                        refine WO.yld (by rfl) (wanted_plain (by rfl)) (yld_move (by rfl)) (by rfl) (by decide) (by repeat (first | exact SelL.nil | exact SelL.self | apply SelL.cons | exact Sel.here | apply Sel.there | apply SelL.skip)) ?_
                        refine WO.yld (by rfl) (wanted_plain (by rfl)) (yld_sub (by rfl) (by rfl) (by rfl)) (by rfl) (by decide) (by repeat (first | exact SelL.nil | exact SelL.self | apply SelL.cons | exact Sel.here | apply Sel.there | apply SelL.skip)) ?_
                        refine WO.yld (by rfl) (wanted_plain (by rfl)) (yld_indexAddrS (by rfl) (by rfl) (by exact Try.runUnderlying53) (by exact Try.sizeOf42) (by repeat (first | exact .here | apply Sel.there)) (1) (by first | rfl | omega) (by omega) (by omega) (by exact Nat.mul_one _)) (by rfl) (by decide) (by repeat (first | exact SelL.nil | exact SelL.self | apply SelL.cons | exact Sel.here | apply Sel.there | apply SelL.skip)) ?_
                        refine WO.yld (by rfl) (wanted_plain (by rfl)) (yld_loadS (by rfl) (by exact Try.isAgg42) (by repeat (first | exact .here | apply Sel.there)) (by first | rfl | assumption | (simp; done) | (simp [*]; done))) (by rfl) (by decide) (by repeat (first | exact SelL.nil | exact SelL.self | apply SelL.cons | exact Sel.here | apply Sel.there | apply SelL.skip)) ?_
                        refine WO.yld (by rfl) (wanted_plain (by rfl)) (yld_len (by rfl) (by exact Try.runUnderlying42)) (by rfl) (by decide) (by repeat (first | exact SelL.nil | exact SelL.self | apply SelL.cons | exact Sel.here | apply Sel.there | apply SelL.skip)) ?_
                        refine WO.yld (by rfl) (wanted_plain (by rfl)) (yld_geq (by rfl) (by rfl)) (by rfl) (by decide) (by repeat (first | exact SelL.nil | exact SelL.self | apply SelL.cons | exact Sel.here | apply Sel.there | apply SelL.skip)) ?_
                        refine WO.yld (by rfl) (wanted_plain (by rfl)) (yld_move (by rfl)) (by rfl) (by decide) (by repeat (first | exact SelL.nil | exact SelL.self | apply SelL.cons | exact Sel.here | apply Sel.there | apply SelL.skip)) ?_
                        refine WO.split (d := 88) (by rfl) (fun hc88 => ?_) (fun hc88 => ?_)
                        · skip
                          have hc88 := of_decide_eq_true hc88
                          omega
                        · skip
                          have hc88 := of_decide_eq_false hc88
                          refine WO.yld (by rfl) (wanted_some (by rfl) (by rfl) (by rfl)) (yld_move (by rfl)) (by rfl) (by decide) (by repeat (first | exact SelL.nil | exact SelL.self | apply SelL.cons | exact Sel.here | apply Sel.there | apply SelL.skip)) ?_
                          refine WO.yld (by rfl) (wanted_some (by rfl) (by rfl) (by rfl)) (yld_move (by rfl)) (by rfl) (by decide) (by repeat (first | exact SelL.nil | exact SelL.self | apply SelL.cons | exact Sel.here | apply Sel.there | apply SelL.skip)) ?_
                          refine WO.yld (by rfl) (wanted_some (by rfl) (by rfl) (by rfl)) (yld_indexAddrS (by rfl) (by rfl) (by exact Try.runUnderlying42) (by exact Try.sizeOf31) (by repeat (first | exact .here | apply Sel.there)) (r) (by first | rfl | omega) (by omega) (by omega) (by exact Nat.mul_one _)) (by rfl) (by decide) (by repeat (first | exact SelL.nil | exact SelL.self | apply SelL.cons | exact Sel.here | apply Sel.there | apply SelL.skip)) ?_
                          refine WO.yld (by rfl) (wanted_some (by rfl) (by rfl) (by rfl)) (yld_loadS (by rfl) (by exact Try.isAgg31) (by repeat (first | exact .here | apply Sel.there)) (by exact hv7)) (by rfl) (by decide) (by repeat (first | exact SelL.nil | exact SelL.self | apply SelL.cons | exact Sel.here | apply Sel.there | apply SelL.skip)) ?_
                          refine WO.yld (by rfl) (wanted_some (by rfl) (by rfl) (by rfl)) (yld_move (by rfl)) (by rfl) (by decide) (by repeat (first | exact SelL.nil | exact SelL.self | apply SelL.cons | exact Sel.here | apply Sel.there | apply SelL.skip)) ?_
                          refine WO.yld (by rfl) (wanted_some (by rfl) (by rfl) (by rfl)) (yld_move (by rfl)) (by rfl) (by decide) (by repeat (first | exact SelL.nil | exact SelL.self | apply SelL.cons | exact Sel.here | apply Sel.there | apply SelL.skip)) ?_
                          refine WO.yld (by rfl) (wanted_some (by rfl) (by rfl) (by rfl)) (yld_sub (by rfl) (by rfl) (by rfl)) (by rfl) (by decide) (by repeat (first | exact SelL.nil | exact SelL.self | apply SelL.cons | exact Sel.here | apply Sel.there | apply SelL.skip)) ?_
                          refine WO.yld (by rfl) (wanted_some (by rfl) (by rfl) (by rfl)) (yld_indexAddrS (by rfl) (by rfl) (by exact Try.runUnderlying53) (by exact Try.sizeOf42) (by repeat (first | exact .here | apply Sel.there)) (1) (by first | rfl | omega) (by omega) (by omega) (by exact Nat.mul_one _)) (by rfl) (by decide) (by repeat (first | exact SelL.nil | exact SelL.self | apply SelL.cons | exact Sel.here | apply Sel.there | apply SelL.skip)) ?_
                          refine WO.yld (by rfl) (wanted_some (by rfl) (by rfl) (by rfl)) (yld_loadS (by rfl) (by exact Try.isAgg42) (by repeat (first | exact .here | apply Sel.there)) (by first | rfl | assumption | (simp; done) | (simp [*]; done))) (by rfl) (by decide) (by repeat (first | exact SelL.nil | exact SelL.self | apply SelL.cons | exact Sel.here | apply Sel.there | apply SelL.skip)) ?_
                          refine WO.yld (by rfl) (wanted_some (by rfl) (by rfl) (by rfl)) (yld_move (by rfl)) (by rfl) (by decide) (by repeat (first | exact SelL.nil | exact SelL.self | apply SelL.cons | exact Sel.here | apply Sel.there | apply SelL.skip)) ?_
                          refine WO.yld (by rfl) (wanted_some (by rfl) (by rfl) (by rfl)) (yld_move (by rfl)) (by rfl) (by decide) (by repeat (first | exact SelL.nil | exact SelL.self | apply SelL.cons | exact Sel.here | apply Sel.there | apply SelL.skip)) ?_
                          refine WO.yld (by rfl) (wanted_some (by rfl) (by rfl) (by rfl)) (yld_indexAddrS (by rfl) (by rfl) (by exact Try.runUnderlying22) (by exact Try.sizeOf3) (by repeat (first | exact .here | apply Sel.there)) (0) (by first | rfl | omega) (by omega) (by omega) (by exact Nat.mul_one _)) (by rfl) (by decide) (by repeat (first | exact SelL.nil | exact SelL.self | apply SelL.cons | exact Sel.here | apply Sel.there | apply SelL.skip)) ?_
                          refine WO.yld (by rfl) (wanted_some (by rfl) (by rfl) (by rfl)) (yld_loadS (by rfl) (by exact Try.isAgg3) (by repeat (first | exact .here | apply Sel.there)) (by first | rfl | assumption | (simp; done) | (simp [*]; done))) (by rfl) (by decide) (by repeat (first | exact SelL.nil | exact SelL.self | apply SelL.cons | exact Sel.here | apply Sel.there | apply SelL.skip)) ?_
                          refine WO.yld (by rfl) (wanted_some (by rfl) (by rfl) (by rfl)) (yld_indexAddrS (by rfl) (by rfl) (by exact Try.runUnderlying42) (by exact Try.sizeOf31) (by repeat (first | exact .here | apply Sel.there)) (D + r) (by first | rfl | omega) (by omega) (by omega) (by exact Nat.mul_one _)) (by rfl) (by decide) (by repeat (first | exact SelL.nil | exact SelL.self | apply SelL.cons | exact Sel.here | apply Sel.there | apply SelL.skip)) ?_
                          refine WO.yld (by rfl) (wanted_some (by rfl) (by rfl) (by rfl)) (yld_loadS (by rfl) (by exact Try.isAgg31) (by repeat (first | exact .here | apply Sel.there)) (by exact hv8)) (by rfl) (by decide) (by repeat (first | exact SelL.nil | exact SelL.self | apply SelL.cons | exact Sel.here | apply Sel.there | apply SelL.skip)) ?_
                          refine WO.eff (by rfl) (wanted_some (by rfl) (by rfl) (by rfl)) (eff_call (by exact Try.call24) (by repeat (first | exact Evs.nil | apply Evs.cons | rfl)) (by repeat (first | exact SelL.nil | exact SelL.self | apply SelL.cons | exact Sel.here | apply Sel.there | apply SelL.skip)) (sameBytes_spec false false ad7 ad8 len7 cap7 len8 cap8 b b (by omega))) (by rfl) (by decide) (by intro x; repeat (first | exact SelL.nil | exact SelL.self | apply SelL.cons | exact Sel.here | apply Sel.there | apply SelL.skip)) ?_
                          rintro _ -
                          rw [decide_eq_true rfl]
                          try dsimp only
                          refine WO.yld (by rfl) (wanted_some (by rfl) (by rfl) (by rfl)) (yld_not (by rfl)) (by rfl) (by decide) (by repeat (first | exact SelL.nil | exact SelL.self | apply SelL.cons | exact Sel.here | apply Sel.there | apply SelL.skip)) ?_
                          refine WO.yld (by rfl) (wanted_plain (by rfl)) (yld_pick_false (by rfl) (by rfl)) (by rfl) (by decide) (by repeat (first | exact SelL.nil | exact SelL.self | apply SelL.cons | exact Sel.here | apply Sel.there | apply SelL.skip)) ?_
                          refine WO.done ?_
                          refine WK.cond (by rfl) (fun h => by cases h) (fun _ => ?_)
                          refine WK.skip ?_
                          refine WK.region ?_
                          refine WL.yld (wanted_plain (by rfl)) (yld_move (by rfl)) (by rfl) (by decide) ?_
                          refine WL.yld (wanted_plain (by rfl)) (yld_move (by rfl)) (by rfl) (by decide) ?_
                          refine WL.yld (wanted_plain (by rfl)) (yld_indexAddrS (by rfl) (by rfl) (by exact Try.runUnderlying22) (by exact Try.sizeOf3) (by repeat (first | exact .here | apply Sel.there)) (0) (by first | rfl | omega) (by omega) (by omega) (by exact Nat.mul_one _)) (by rfl) (by decide) ?_
                          refine WL.yld (wanted_plain (by rfl)) (yld_loadS (by rfl) (by exact Try.isAgg3) (by repeat (first | exact .here | apply Sel.there)) (by first | rfl | assumption | (simp; done) | (simp [*]; done))) (by rfl) (by decide) ?_
                          refine WL.yld (wanted_plain (by rfl)) (yld_add (by rfl) (by rfl) (by first | exact w64 (by omega) (by omega) | rfl)) (by rfl) (by decide) ?_
                          refine WL.yld (wanted_plain (by rfl)) (yld_indexAddrS (by rfl) (by rfl) (by exact Try.runUnderlying22) (by exact Try.sizeOf3) (by repeat (first | exact .here | apply Sel.there)) (0) (by first | rfl | omega) (by omega) (by omega) (by exact Nat.mul_one _)) (by rfl) (by decide) ?_
                          refine WL.eff0 (wanted_plain (by rfl)) (eff_storeS (by rfl) (by rfl) (by exact Try.sizeOf3) (by rfl) (by rfl) (by rfl) (by simp) (by repeat (first | exact .here | apply Sel.there)) (by repeat (first | exact SetAts.nil | apply SetAts.cons | exact SetAt.here | apply SetAt.there))) (by rfl) ?_
                          rintro _ -
                          try dsimp only
                          refine WL.done ?_
                          refine WK.endBlock ?_
                          refine WK.region ?_
                          refine WL.yld (wanted_plain (by rfl)) (yld_move (by rfl)) (by rfl) (by decide) ?_
                          refine WL.yld (wanted_plain (by rfl)) (yld_add (by rfl) (by rfl) (by first | exact w64 (by omega) (by omega) | rfl)) (by rfl) (by decide) ?_
                          refine WL.yld (wanted_plain (by rfl)) (yld_assign (by rfl)) (by rfl) (by decide) ?_
                          refine WL.done ?_
                          exact WK.next hN3 (r + 1) (by omega) (by omega) (by repeat (first | exact KK.nil | refine KK.cons (by first | rfl | (simp; done)) ?_)) (by repeat (first | exact SelL.nil | exact SelL.self | apply SelL.cons | exact Sel.here | apply Sel.there | apply SelL.skip))
                      · skip
                        have hc74 := of_decide_eq_false hc74
                        refine WK.exit ?_
                        repeat (first | refine XQ.then_ ?_ | refine XQ.block (by rfl) ?_)
                        refine XQ.here ?_
                        refine WK.endBlock ?_
                        obtain rfl : r = k := by omega
                        rw [← f4]
                        exact WK.goto JB2 ⟨e9, e1, s0, s1, L, sa0, sl0, sc0, sv0, sa1, sl1, sc1, sv1, la, ll, lc, lv, ta, tl, tc⟩ ⟨(v0.mono f9 f8), (v1.mono rfl (Nat.le_succ _)), f6, f7, (by dsimp only; omega), t0, t1, (fun p hp => (hlink p hp).imp (fun h => ⟨h.1, h.2.mono ⟨[], (List.append_nil _).symm⟩ hdel⟩) (fun h => ⟨h.1, h.2.mono ⟨[], (List.append_nil _).symm⟩ (Int.le_refl _)⟩)), (by dsimp only; omega)⟩ (by repeat (first | exact KK.nil | refine KK.cons (by first | rfl | (simp; done)) ?_)) (by (try dsimp only [oL, List.cons_append, List.nil_append]); exact (by repeat (first | exact SelL.nil | exact SelL.self | apply SelL.cons | exact Sel.here | apply Sel.there | apply SelL.skip)))
              · intro J136
                refine WK.cond (by rfl) (fun hc136 => ?_) (fun hc136 => ?_)
                · skip
                  have hc136 := of_decide_eq_true hc136
                  refine WK.skip ?_
                  exact WK.goto J136 _ trivial (by repeat (first | exact KK.nil | refine KK.cons (by first | rfl | (simp; done)) ?_)) (by repeat (first | exact SelL.nil | exact SelL.self | apply SelL.cons | exact Sel.here | apply Sel.there | apply SelL.skip))
                · skip
                  have hc136 := of_decide_eq_false hc136
                  refine WK.region ?_
                  refine WL.yld (wanted_plain (by rfl)) (yld_eql (by rfl) (by rfl)) (by rfl) (by decide) ?_
                  refine WL.yld (wanted_plain (by rfl)) (yld_assign (by rfl)) (by rfl) (by decide) ?_
                  refine WL.done ?_
                  exact WK.goto J136 _ trivial (by repeat (first | exact KK.nil | refine KK.cons (by first | rfl | (simp; done)) ?_)) (by repeat (first | exact SelL.nil | exact SelL.self | apply SelL.cons | exact Sel.here | apply Sel.there | apply SelL.skip))
          · intro J113
            refine WK.cond (by rfl) (fun hc113 => ?_) (fun hc113 => ?_)
            · skip
              have hc113 := of_decide_eq_true hc113
              refine WK.skip ?_
              exact WK.goto J113 _ trivial (by repeat (first | exact KK.nil | refine KK.cons (by first | rfl | (simp; done)) ?_)) (by repeat (first | exact SelL.nil | exact SelL.self | apply SelL.cons | exact Sel.here | apply Sel.there | apply SelL.skip))
            · skip
              have hc113 := of_decide_eq_false hc113
              refine WK.region ?_
              refine WL.yld (wanted_plain (by rfl)) (yld_eql (by rfl) (by rfl)) (by rfl) (by decide) ?_
              refine WL.yld (wanted_plain (by rfl)) (yld_assign (by rfl)) (by rfl) (by decide) ?_
              refine WL.done ?_
              exact WK.goto J113 _ trivial (by repeat (first | exact KK.nil | refine KK.cons (by first | rfl | (simp; done)) ?_)) (by repeat (first | exact SelL.nil | exact SelL.self | apply SelL.cons | exact Sel.here | apply Sel.there | apply SelL.skip))
      · skip
        have hc34 := of_decide_eq_false hc34
        refine WK.exit ?_
        repeat (first | refine XQ.then_ ?_ | refine XQ.block (by rfl) ?_)
        refine XQ.here ?_
        refine WK.seq ?_
        refine WK.region ?_
        refine WL.eff (wanted_plain (by rfl)) (eff_call (by exact Try.call23) (by repeat (first | exact Evs.nil | apply Evs.cons | rfl)) (by repeat (first | exact SelL.nil | exact SelL.self | apply SelL.cons | exact Sel.here | apply Sel.there | apply SelL.skip)) lives_spec) (by rfl) (by decide) ?_
        rintro _ -
        try dsimp only
        refine WL.yld (wanted_plain (by rfl)) (yld_assign (by rfl)) (by rfl) (by decide) ?_
        refine WL.done ?_
        refine WK.ret ?_
        repeat (first | refine RQ.block ?_ | refine RQ.then_ ?_)
        refine RQ.body (results1 (by rfl) (by rfl)) (fun w s => ?_)
        exact ⟨(), trivial, rfl, s.toCs (by repeat (first | exact SelL.nil | exact SelL.self | apply SelL.cons | exact Sel.here | apply Sel.there | apply SelL.skip))⟩
    · skip
      have hc31 := of_decide_eq_false hc31
      refine WL.skip (unwanted_some (by rfl) (by rfl) (by rfl) (by rfl)) (by rfl) (by decide) ?_
      refine WL.skip (unwanted_some (by rfl) (by rfl) (by rfl) (by rfl)) (by rfl) (by decide) ?_
      refine WL.yld (wanted_plain (by rfl)) (yld_pick_false (by rfl) (by rfl)) (by rfl) (by decide) ?_
      refine WL.done ?_
      refine WK.cond (by rfl) (fun h => by cases h) (fun _ => ?_)
      refine WK.exit ?_
      repeat (first | refine XQ.then_ ?_ | refine XQ.block (by rfl) ?_)
      refine XQ.here ?_
      refine WK.seq ?_
      refine WK.region ?_
      refine WL.eff (wanted_plain (by rfl)) (eff_call (by exact Try.call23) (by repeat (first | exact Evs.nil | apply Evs.cons | rfl)) (by repeat (first | exact SelL.nil | exact SelL.self | apply SelL.cons | exact Sel.here | apply Sel.there | apply SelL.skip)) lives_spec) (by rfl) (by decide) ?_
      rintro _ -
      try dsimp only
      refine WL.yld (wanted_plain (by rfl)) (yld_assign (by rfl)) (by rfl) (by decide) ?_
      refine WL.done ?_
      refine WK.ret ?_
      repeat (first | refine RQ.block ?_ | refine RQ.then_ ?_)
      refine RQ.body (results1 (by rfl) (by rfl)) (fun w s => ?_)
      exact ⟨(), trivial, rfl, s.toCs (by repeat (first | exact SelL.nil | exact SelL.self | apply SelL.cons | exact Sel.here | apply Sel.there | apply SelL.skip))⟩
end Go.Proofs.Ytnknclbiamhnaaa
