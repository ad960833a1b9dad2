import Derived.Test.YtnknclbiamhnaaaChanW
namespace Go.Proofs.Ytnknclbiamhnaaa
set_option linter.unusedVariables false
set_option linter.unusedSimpArgs false
open Go Go.Sep
attribute [local irreducible] row sl mapO held exL allR byt mapI slr endL
/-- Half of what one end knows: how many of its own messages are acknowledged, how many of the other's it has delivered, whether it owes an answer. -/
structure HE where
  a : Nat
  d : Nat
  o : Bool

/-- The messages from a on, of n that were sent: each its own number. -/
def msgs (a n : Nat) : List (List UInt8) := (List.range' a (n - a)).map fun i => [UInt8.ofNat i]
def PE (W : Int) (N : Nat) (x : HE) : EndM := ⟨W, msgs x.a N, x.a, x.d, [], x.o⟩
theorem msgs_len (a n : Nat) : (msgs a n).length = n - a := by simp [msgs]
theorem newPE (W : Int) : newE W = PE W 0 ⟨0, 0, false⟩ := rfl
theorem msgs_get {a n i : Nat} (h : a + i < n) : (msgs a n)[i]? = some [UInt8.ofNat (a + i)] := by
  simp [msgs, List.getElem?_range', show i < n - a by omega]
theorem msgs_snoc (n : Nat) : msgs 0 n ++ [[UInt8.ofNat n]] = msgs 0 (n + 1) := by
  simp [msgs, List.range'_concat]
theorem msgs_drop {a b n : Nat} (h : a ≤ b) (hb : b ≤ n) : (msgs a n).drop (b - a) = msgs b n := by
  simp only [msgs, ← List.map_drop, List.drop_range']
  rw [show a + (b - a) * 1 = b by omega, show n - a - (b - a) = n - b by omega]
theorem sendPE {W : Int} {i : Nat} (h : i < 1000) : sendM (PE W i ⟨0, 0, false⟩) [UInt8.ofNat i] = (0, PE W (i + 1) ⟨0, 0, false⟩) := by
  unfold sendM
  rw [if_neg (by simp only [PE, msgs_len, List.length_cons, List.length_nil]; omega)]
  simp only [PE, msgs_snoc]

theorem PE_ok {W : Int} {N : Nat} {x : HE} (hW : 1 ≤ W ∧ W ≤ 16) (hN : N ≤ 1000) (ha : x.a ≤ 1000) (hd : x.d ≤ 1000) : EndOk (PE W N x) :=
  ⟨hW, ⟨by simp only [PE]; omega, by simp only [PE]; omega⟩, ⟨by simp only [PE]; omega, by simp only [PE]; omega⟩, by simp only [PE, msgs_len]; omega, fun b hb => by
    simp only [PE, msgs, List.mem_map] at hb
    obtain ⟨i, -, rfl⟩ := hb
    simp⟩
theorem PE_inok {W : Int} {N : Nat} {x : HE} (hN : N ≤ 1000) (ha : x.a ≤ 1000) (hd : x.d ≤ 1000) : InOk (PE W N x) :=
  ⟨⟨by simp only [PE]; omega, by simp only [PE]; omega⟩, ⟨by simp only [PE]; omega, by simp only [PE, List.length_nil]; omega⟩, by simp only [PE, msgs_len]; omega, by simp [PE]⟩

/-- How many messages go out; how many packets. -/
def nm (W : Int) (N : Nat) (x : HE) : Nat := min (N - x.a) W.toNat
def np (n : Nat) (x : HE) : Nat := if n = 0 then (if x.o = true then 1 else 0) else n
def pk (n : Nat) (x : HE) (i : Nat) : Pkt := if n = 0 then ⟨0, x.d, []⟩ else ⟨((x.a + i : Nat) : Int) + 1, x.d, [UInt8.ofNat (x.a + i)]⟩
def pkL (n : Nat) (x : HE) : List Pkt := (List.range (np n x)).map (pk n x)
theorem pkL_get {n : Nat} {x : HE} {i : Nat} (h : i < np n x) : (pkL n x)[i]? = some (pk n x i) := by simp [pkL, h]
theorem pkL_b {n : Nat} {x : HE} {i : Nat} (h : i < np n x) : ((pkL n x).map (·.b))[i]? = some (pk n x i).b := by simp [pkL, h]
theorem pkL_len (n : Nat) (x : HE) : (pkL n x).length = np n x := by simp [pkL]

theorem outPE (W : Int) (N : Nat) (x : HE) : outM (PE W N x) = (pkL (nm W N x) x, PE W N { x with o := false }) := by
  have hn : outN (PE W N x) = nm W N x := by unfold outN nm; simp only [PE, msgs_len]
  unfold outM
  rw [hn]
  refine Prod.ext ?_ rfl
  show (if nm W N x = 0 ∧ (PE W N x).owing = true then _ else _) = _
  by_cases h : nm W N x = 0
  · by_cases ho : x.o = true
    · rw [if_pos ⟨h, ho⟩]
      simp [pkL, np, h, ho, pk, PE]
    · rw [if_neg (fun k => ho k.2)]
      simp [pkL, np, h, ho, outL, hn, pkts]
  · rw [if_neg (fun k => h k.1)]
    apply List.ext_getElem?
    intro i
    by_cases hi : i < nm W N x
    · rw [pkL_get (by simp [np, h, hi])]
      unfold outL
      rw [pkts_get, List.getElem?_take, hn, if_pos hi]
      have hi' : x.a + i < N := by unfold nm at hi; omega
      simp only [PE, msgs_get hi', pk, if_neg h, Option.map_some, Nat.zero_add]
      rfl
    · rw [List.getElem?_eq_none (by rw [outL_len, hn]; omega), List.getElem?_eq_none (by rw [pkL_len]; simp [np, h]; omega)]

theorem outPE0 (W : Int) (N : Nat) (a d : Nat) : (outM (PE W N ⟨a, d, false⟩)).2 = PE W N ⟨a, d, false⟩ := by rw [outPE]

/-- What the other end knows behind i packets. -/
def recv (n : Nat) (x y : HE) (i : Nat) : HE := ⟨if i = 0 then y.a else x.d, if n = 0 then y.d else max y.d (x.a + i), y.o || (decide (n ≠ 0) && decide (i ≠ 0))⟩
theorem recv_zero (n : Nat) {x y : HE} (h : x.a ≤ y.d) : recv n x y 0 = y := by
  unfold recv
  cases y
  simp at h ⊢
  intro hn
  omega
def outs (n : Nat) (x y : HE) (i : Nat) : List (List UInt8) := if n ≠ 0 ∧ (recv n x y i).d = x.a + i then [[UInt8.ofNat (x.a + i)]] else []

theorem ackPE {W : Int} {N : Nat} {y : HE} {d : Nat} (h : y.a ≤ d) (hd : d ≤ N) : ackM (PE W N y) d = PE W N { y with a := d } := by
  unfold ackM
  by_cases hc : y.a < d
  · rw [if_pos (by simp only [PE]; omega)]
    simp only [PE]
    rw [show ((d : Int) - (y.a : Int)).toNat = d - y.a by omega, msgs_drop h hd]
  · rw [if_neg (by simp only [PE]; omega)]
    have : y.a = d := by omega
    subst this
    rfl

theorem inPE {W' : Int} {N' n i : Nat} {x y : HE} (hd : x.d ≤ N') (ha : y.a ≤ x.d) (hy : x.a ≤ y.d) (hi : i < np n x) (hn : n ≤ 16) :
    inM (PE W' N' (recv n x y i)) (pk n x i) = (outs n x y i, PE W' N' (recv n x y (i + 1))) := by
  have hza : (recv n x y i).a ≤ x.d := by unfold recv; dsimp only; split <;> omega
  by_cases h0 : n = 0
  · subst h0
    have hi0 : i = 0 := by unfold np at hi; simp at hi; split at hi <;> omega
    subst hi0
    unfold inM
    rw [if_neg, if_pos (by simp [pk])]
    · simp only [pk, if_true]
      rw [ackPE hza hd]
      simp [outs, recv]
    · simp only [pk, if_true, PE, msgs_len]
      rintro (h | h | h)
      · simp [validB] at h
      · omega
      · have : (0 : Int) ≤ ((recv 0 x y 0).d : Int) := by omega
        omega
  · have hi' : i < n := by simpa [np, h0] using hi
    have hzd : (recv n x y i).d = max y.d (x.a + i) := by simp [recv, h0]
    unfold inM
    rw [if_neg, if_neg (by simp only [pk, if_neg h0]; omega)]
    · simp only [pk, if_neg h0]
      rw [ackPE hza hd]
      have hr : recv n x y (i + 1) = ⟨x.d, max y.d (x.a + i + 1), true⟩ := by simp [recv, h0, Nat.add_assoc]
      rw [hr]
      by_cases hc : max y.d (x.a + i) = x.a + i
      · have ho : outs n x y i = [[UInt8.ofNat (x.a + i)]] := by unfold outs; rw [if_pos ⟨h0, by omega⟩]
        have hh : holdM (PE W' N' { recv n x y i with a := x.d }) ⟨((x.a + i : Nat) : Int) + 1, x.d, [UInt8.ofNat (x.a + i)]⟩ = { PE W' N' { recv n x y i with a := x.d } with owing := true, held := [(((x.a + i : Nat) : Int) + 1, [UInt8.ofNat (x.a + i)])] } := by
          unfold holdM
          rw [if_pos]
          · simp [PE, mset]
          · simp only [PE, mget, hzd, hc, and_true]; omega
        rw [hh, ho]
        have hm : max y.d (x.a + i + 1) = x.a + i + 1 := by omega
        simp [PE, deliver, mget, mdel, hzd, hc, hm]
      · have ho : outs n x y i = [] := by unfold outs; rw [if_neg]; rintro ⟨-, h⟩; omega
        have hh : holdM (PE W' N' { recv n x y i with a := x.d }) ⟨((x.a + i : Nat) : Int) + 1, x.d, [UInt8.ofNat (x.a + i)]⟩ = { PE W' N' { recv n x y i with a := x.d } with owing := true } := by
          unfold holdM
          rw [if_neg]
          simp only [PE, mget, hzd, and_true]; omega
        rw [hh, ho]
        have hm : max y.d (x.a + i + 1) = max y.d (x.a + i) := by omega
        simp [PE, deliver, hzd, hm]
    · simp only [pk, if_neg h0, PE, msgs_len]
      rintro (h | h | h)
      · simp [validB] at h; omega
      · omega
      · rw [hzd] at h; omega

/-! ### The rounds -/
def PI (N0 N1 r : Nat) (x y : HE) : Prop := x.a = y.d ∧ y.a ≤ x.d ∧ (x.o = true ∨ y.a = x.d) ∧ x.a ≤ N0 ∧ x.d ≤ N1 ∧ min r N0 ≤ x.a ∧ min r N1 ≤ x.d ∧ min (r - 1) N1 ≤ y.a
def PM (N0 N1 r : Nat) (x y : HE) : Prop := y.a = x.d ∧ x.a ≤ y.d ∧ (y.o = true ∨ x.a = y.d) ∧ y.d ≤ N0 ∧ x.d ≤ N1 ∧ min (r + 1) N0 ≤ y.d ∧ min r N1 ≤ y.a
def PK (N0 N1 r : Nat) : Nat → HE → HE → Prop
  | 0 => PI N0 N1 r
  | 1 => PM N0 N1 r
  | _ => PI N0 N1 (r + 1)

theorem PI_start (N0 N1 : Nat) : PI N0 N1 0 ⟨0, 0, false⟩ ⟨0, 0, false⟩ := by simp [PI]
theorem PI_step {N0 N1 r : Nat} {x y : HE} {W : Int} (hW : 1 ≤ W) (h : PI N0 N1 r x y) : PM N0 N1 r { x with o := false } (recv (nm W N0 x) x y (np (nm W N0 x) x)) := by
  obtain ⟨h1, h2, h3, h4, h5, h6, h7, h8⟩ := h
  have hW' : 1 ≤ W.toNat := by omega
  unfold PM recv np nm
  by_cases h0 : min (N0 - x.a) W.toNat = 0
  · simp only [h0, if_true]
    rcases h3 with h3 | h3
    · simp [h3]; omega
    · by_cases ho : x.o = true
      · simp [ho]; omega
      · simp [ho]; omega
  · simp [h0]; omega
theorem PM_step {N0 N1 r : Nat} {x y : HE} {W : Int} (hW : 1 ≤ W) (h : PM N0 N1 r x y) : PI N0 N1 (r + 1) (recv (nm W N1 y) y x (np (nm W N1 y) y)) { y with o := false } := by
  obtain ⟨h1, h2, h3, h4, h5, h6, h7⟩ := h
  have hW' : 1 ≤ W.toNat := by omega
  unfold PI recv np nm
  by_cases h0 : min (N1 - y.a) W.toNat = 0
  · simp only [h0, if_true]
    rcases h3 with h3 | h3
    · simp [h3]; omega
    · by_cases ho : y.o = true
      · simp [ho]; omega
      · simp [ho]; omega
  · simp [h0]; omega
theorem PI_end {N0 N1 r : Nat} {x y : HE} (hr : r = max N0 N1 + 1) (h : PI N0 N1 r x y) : x.a = N0 ∧ x.d = N1 ∧ y.d = N0 ∧ y.a = N1 := by
  obtain ⟨h1, h2, h3, h4, h5, h6, h7, h8⟩ := h
  omega
theorem u8wrap {i : Nat} : IntKind.u8.wrap (i : Int) = ((UInt8.ofNat i).toNat : Int) := by
  simp [IntKind.wrap, IntKind.signed, IntKind.bits]
theorem u8back {i : Nat} (h : i < 256) : IntKind.i64.wrap ((UInt8.ofNat i).toNat : Int) = (i : Int) := by
  have : (UInt8.ofNat i).toNat = i := by simp; omega
  rw [this]
  exact w64 (by omega) (by omega)
theorem recv_a (n : Nat) (x y : HE) (i : Nat) : (recv n x y i).a ≤ max x.a (max x.d y.a) := by unfold recv; dsimp only; split <;> omega
theorem recv_d (n : Nat) (x y : HE) (i : Nat) : (recv n x y i).d ≤ max y.d (x.a + i) := by unfold recv; dsimp only; split <;> omega
theorem outs_len (n : Nat) (x y : HE) (i : Nat) : (outs n x y i).length ≤ 1 := by unfold outs; split <;> simp
theorem outs_d {n : Nat} {x y : HE} {i : Nat} (h : i < np n x) : (recv n x y i).d + (outs n x y i).length = (recv n x y (i + 1)).d := by
  unfold outs
  by_cases h0 : n = 0
  · rw [if_neg (by simp [h0])]
    simp [recv, h0]
  · have hr : (recv n x y i).d = max y.d (x.a + i) := by simp [recv, h0]
    have hr' : (recv n x y (i + 1)).d = max y.d (x.a + (i + 1)) := by simp [recv, h0]
    rw [hr, hr']
    by_cases hc : max y.d (x.a + i) = x.a + i
    · rw [if_pos ⟨h0, by omega⟩]
      simp only [List.length_cons, List.length_nil]; omega
    · rw [if_neg (by rintro ⟨-, k⟩; omega)]
      simp only [List.length_nil]; omega
theorem outs_get {n : Nat} {x y : HE} {i j : Nat} (h : j < (outs n x y i).length) : j = 0 ∧ outs n x y i = [[UInt8.ofNat (x.a + i)]] ∧ (recv n x y i).d = x.a + i := by
  unfold outs at h ⊢
  split at h
  · rename_i hh
    rw [if_pos hh]
    exact ⟨by simpa using h, rfl, hh.2⟩
  · simp at h
theorem np_le {n : Nat} (x : HE) (h : n ≤ 16) : np n x ≤ 16 := by unfold np; split <;> (try split) <;> omega
set_option maxRecDepth 20000 in
set_option maxHeartbeats 4000000 in
theorem progress_spec (window one two lost : Int) (h0 : -9223372036854775808 ≤ window ∧ window ≤ 9223372036854775807) (h1 : -9223372036854775808 ≤ one ∧ one ≤ 9223372036854775807) (h2 : -9223372036854775808 ≤ two ∧ two ≤ 9223372036854775807) (h3 : -9223372036854775808 ≤ lost ∧ lost ≤ 9223372036854775807) :
    Triple Try.prog 5 #[.int .i64 window, .int .i64 one, .int .i64 two, .int .i64 lost] [] (Unit) (fun _ => True) (fun _ => .bool true) (fun _ => []) := by
  refine Triple.of_body (args := [.int .i64 window, .int .i64 one, .int .i64 two, .int .i64 lost]) Try.func5 rfl Try.ntmps5 (by simp) (fun g F => ?_)
  dsimp only [numb, List.cons_append, List.nil_append]
  have hW0 := aroundM_range window 16 (by omega)
  have hW1 := aroundM_range (window.tdiv 16) 16 (by omega)
  have hL := aroundM_range lost 5 (by omega)
  refine WK.seq ?_
  refine WK.region ?_
  refine WL.yld (wanted_plain (by rfl)) (yld_assign (by rfl)) (by rfl) (by decide) ?_
  refine WL.done ?_
  refine WK.seq ?_
  refine WK.region ?_
  refine WL.yld (wanted_plain (by rfl)) (yld_move (by rfl)) (by rfl) (by decide) ?_
  refine WL.eff (wanted_plain (by rfl)) (eff_call (by exact Try.call10) (by repeat (first | exact Evs.nil | apply Evs.cons | rfl)) (by repeat (first | exact SelL.nil | exact SelL.self | apply SelL.cons | exact Sel.here | apply Sel.there | apply SelL.skip)) (ends_spec window h0)) (by rfl) (by decide) ?_
  rintro ⟨eb, q0, q1⟩ -
  try dsimp only
  refine WL.yld (wanted_plain (by rfl)) (yld_assign (by rfl)) (by rfl) (by decide) ?_
  refine WL.done ?_
  refine WK.seq ?_
  refine WK.seq ?_
  refine WK.region ?_
  refine WL.yld (wanted_plain (by rfl)) (yld_move (by rfl)) (by rfl) (by decide) ?_
  refine WL.yld (wanted_plain (by rfl)) (yld_eqlNilS (by rfl) (by rfl) (by exact Try.runUnderlying23)) (by rfl) (by decide) ?_
  refine WL.done ?_
  refine WK.cond (by rfl) (fun hc24 => ?_) (fun hc24 => ?_)
  · skip
    first | omega | exact absurd rfl hc24 | (simp at hc24; done) | (exact absurd hc24 (by decide))
  · skip
    refine WK.skip ?_
    refine WK.seq ?_
    refine WK.region ?_
    refine WL.yld (wanted_plain (by rfl)) (yld_move (by rfl)) (by rfl) (by decide) ?_
    refine WL.eff (wanted_plain (by rfl)) (eff_call (by exact Try.call12) (by repeat (first | exact Evs.nil | apply Evs.cons | rfl)) (by repeat (first | exact SelL.nil | exact SelL.self | apply SelL.cons | exact Sel.here | apply Sel.there | apply SelL.skip)) (around_spec one 41 h1 (by omega))) (by rfl) (by decide) ?_
    rintro _ -
    have h26 := aroundM_range one 41 (by omega)
    obtain ⟨N0, hN0⟩ : ∃ N : Nat, aroundM one 41 = (N : Int) := ⟨(aroundM one 41).toNat, by omega⟩
    rw [hN0] at h26 ⊢
    try dsimp only
    refine WL.yld (wanted_plain (by rfl)) (yld_move (by rfl)) (by rfl) (by decide) ?_
    refine WL.eff (wanted_plain (by rfl)) (eff_call (by exact Try.call12) (by repeat (first | exact Evs.nil | apply Evs.cons | rfl)) (by repeat (first | exact SelL.nil | exact SelL.self | apply SelL.cons | exact Sel.here | apply Sel.there | apply SelL.skip)) (around_spec two 41 h2 (by omega))) (by rfl) (by decide) ?_
    rintro _ -
    have h28 := aroundM_range two 41 (by omega)
    obtain ⟨N1, hN1⟩ : ∃ N : Nat, aroundM two 41 = (N : Int) := ⟨(aroundM two 41).toNat, by omega⟩
    rw [hN1] at h28 ⊢
    try dsimp only
    refine WL.eff (wanted_plain (by rfl)) (eff_mkSliceN (by exact Try.runUnderlying22) (by exact Try.sizeOf3) (by exact Try.zeroValue3) (by repeat (first | exact PrtsN.nil | apply PrtsN.cons | rfl)) (by decide) (by rfl) (by rfl) (by rfl) (by rfl)) (by rfl) (by decide) ?_
    rintro b29 -
    try dsimp only [List.cons_append, List.nil_append]
    try dsimp only
    refine WL.yld (wanted_plain (by rfl)) (yld_assign (by rfl)) (by rfl) (by decide) ?_
    refine WL.done ?_
    refine WK.seq ?_
    refine WK.seq ?_
    refine WK.region ?_
    refine WL.yld (wanted_plain (by rfl)) (yld_assign (by rfl)) (by rfl) (by decide) ?_
    refine WL.done ?_
    refine WK.block ?_
    rw [newPE, newPE]
    refine WK.loop (ι := Nat) (fun k => k ≤ 2) (fun k => [(9, .slice (some ⟨eb, 0, none⟩) 2 2), (10, .slice (some ⟨b29, 0, none⟩) 2 2), (3, .int .i64 lost), (11, .int .i64 (k : Int))]) (fun k => endR q0 (PE (1 + aroundM window 16) (if k = 0 then 0 else N0) ⟨0, 0, false⟩) :: endR q1 (PE (1 + aroundM (window.tdiv 16) 16) (if k ≤ 1 then 0 else N1) ⟨0, 0, false⟩) :: sl true 33 1 (some ⟨eb, 0, none⟩) 2 2 [.pointer (some ⟨q0, 0, none⟩), .pointer (some ⟨q1, 0, none⟩)] :: sl true 3 1 (some ⟨b29, 0, none⟩) 2 2 [.int .i64 (N0 : Int), .int .i64 (N1 : Int)] :: F) (fun k => 2 - k) (0) (Nat.zero_le _) (by repeat (first | exact KK.nil | refine KK.cons (by first | rfl | (simp; done)) ?_)) (by repeat (first | exact SelL.nil | exact SelL.self | apply SelL.cons | exact Sel.here | apply Sel.there | apply SelL.skip)) ?_
    rintro k hk M hM
    refine WK.seq ?_
    refine WK.seq ?_
    refine WK.region ?_
    refine WL.yld (wanted_plain (by rfl)) (yld_move (by rfl)) (by rfl) (by decide) ?_
    refine WL.yld (wanted_plain (by rfl)) (yld_lss (by rfl) (by rfl)) (by rfl) (by decide) ?_
    refine WL.done ?_
    refine WK.cond (by rfl) (fun hc31 => ?_) (fun hc31 => ?_)
    · skip
      have hc31 := of_decide_eq_true hc31
      refine WK.skip ?_
      refine WK.seq ?_
      refine WK.block ?_
      refine WK.seq ?_
      refine WK.region ?_
      obtain rfl | rfl : k = 0 ∨ k = 1 := by omega
      · skip
        refine WL.yld (wanted_plain (by rfl)) (yld_assign (by rfl)) (by rfl) (by decide) ?_
        refine WL.done ?_
        refine WK.block ?_
        refine WK.loop (ι := Nat) (fun i => i ≤ N0) (fun i => [(9, .slice (some ⟨eb, 0, none⟩) 2 2), (10, .slice (some ⟨b29, 0, none⟩) 2 2), (3, .int .i64 lost), (11, .int .i64 (0 : Int)), (12, .int .i64 (i : Int))]) (fun i => endR q0 (PE (1 + aroundM window 16) i ⟨0, 0, false⟩) :: endR q1 (PE (1 + aroundM (window.tdiv 16) 16) 0 ⟨0, 0, false⟩) :: sl true 33 1 (some ⟨eb, 0, none⟩) 2 2 [.pointer (some ⟨q0, 0, none⟩), .pointer (some ⟨q1, 0, none⟩)] :: sl true 3 1 (some ⟨b29, 0, none⟩) 2 2 [.int .i64 (N0 : Int), .int .i64 (N1 : Int)] :: F) (fun i => N0 - i) (0) (Nat.zero_le _) (by repeat (first | exact KK.nil | refine KK.cons (by first | rfl | (simp; done)) ?_)) (by repeat (first | exact SelL.nil | exact SelL.self | apply SelL.cons | exact Sel.here | apply Sel.there | apply SelL.skip)) ?_
        rintro i hi M0 hM0
        refine WK.seq ?_
        refine WK.seq ?_
        refine WK.region ?_
        refine WL.yld (wanted_plain (by rfl)) (yld_move (by rfl)) (by rfl) (by decide) ?_
        refine WL.yld (wanted_plain (by rfl)) (yld_move (by rfl)) (by rfl) (by decide) ?_
        refine WL.yld (wanted_plain (by rfl)) (yld_move (by rfl)) (by rfl) (by decide) ?_
        refine WL.yld (wanted_plain (by rfl)) (yld_indexAddrS (by rfl) (by rfl) (by exact Try.runUnderlying22) (by exact Try.sizeOf3) (by repeat (first | exact .here | apply Sel.there)) (0) (by first | rfl | omega) (by omega) (by omega) (by exact Nat.mul_one _)) (by rfl) (by decide) ?_
        refine WL.yld (wanted_plain (by rfl)) (yld_loadS (by rfl) (by exact Try.isAgg3) (by repeat (first | exact .here | apply Sel.there)) (by first | rfl | assumption | (simp; done) | (simp [*]; done))) (by rfl) (by decide) ?_
        refine WL.yld (wanted_plain (by rfl)) (yld_lss (by rfl) (by rfl)) (by rfl) (by decide) ?_
        refine WL.done ?_
        refine WK.cond (by rfl) (fun hc39 => ?_) (fun hc39 => ?_)
        · skip
          have hc39 := of_decide_eq_true hc39
          refine WK.skip ?_
          refine WK.seq ?_
          refine WK.block ?_
          refine WK.seq ?_
          refine WK.region ?_
          refine WL.yld (wanted_plain (by rfl)) (yld_move (by rfl)) (by rfl) (by decide) ?_
          refine WL.yld (wanted_plain (by rfl)) (yld_move (by rfl)) (by rfl) (by decide) ?_
          refine WL.yld (wanted_plain (by rfl)) (yld_indexAddrS (by rfl) (by rfl) (by exact Try.runUnderlying23) (by exact Try.sizeOf33) (by repeat (first | exact .here | apply Sel.there)) (0) (by first | rfl | omega) (by omega) (by omega) (by exact Nat.mul_one _)) (by rfl) (by decide) ?_
          refine WL.yld (wanted_plain (by rfl)) (yld_loadS (by rfl) (by exact Try.isAgg33) (by repeat (first | exact .here | apply Sel.there)) (by first | rfl | assumption | (simp; done) | (simp [*]; done))) (by rfl) (by decide) ?_
          refine WL.yld (wanted_plain (by rfl)) (yld_move (by rfl)) (by rfl) (by decide) ?_
          refine WL.yld (wanted_plain (by rfl)) (yld_convInt (by rfl) (by exact Try.runUnderlying3) (by exact Try.runUnderlying5) u8wrap) (by rfl) (by decide) ?_
          refine WL.eff (wanted_plain (by rfl)) (eff_mkSlice1 (by rfl) (by rfl) (by exact Try.runUnderlying31) (by exact Try.sizeOf5) (by exact Try.zeroValue5) (by rfl) (by rfl) (by decide) (by rfl)) (by rfl) (by decide) ?_
          rintro b48 -
          try dsimp only
          refine WL.eff (wanted_plain (by rfl)) (eff_call (by exact Try.call13) (by repeat (first | exact Evs.nil | apply Evs.cons | rfl)) (by repeat (first | exact SelL.nil | exact SelL.self | apply SelL.cons | exact Sel.here | apply Sel.there | apply SelL.skip)) (send_spec q0 (PE (1 + aroundM window 16) i ⟨0, 0, false⟩) true (some ⟨b48, 0, none⟩) 1 [UInt8.ofNat i] (by simp))) (by rfl) (by decide) ?_
          rintro _ -
          rw [sendPE (by omega)]
          try dsimp only
          refine WL.yld (wanted_plain (by rfl)) (yld_neq (by rfl) (by rfl)) (by rfl) (by decide) ?_
          refine WL.done ?_
          refine WK.cond (by rfl) (fun hc50 => ?_) (fun hc50 => ?_)
          · skip
            have hc50 := of_decide_eq_true hc50
            first | omega | exact absurd rfl hc50 | (simp at hc50; done) | (exact absurd hc50 (by decide))
          · skip
            have hc50 := of_decide_eq_false hc50
            refine WK.skip ?_
            refine WK.endBlock ?_
            refine WK.region ?_
            refine WL.yld (wanted_plain (by rfl)) (yld_move (by rfl)) (by rfl) (by decide) ?_
            refine WL.yld (wanted_plain (by rfl)) (yld_add (by rfl) (by rfl) (by first | exact w64 (by omega) (by omega) | rfl)) (by rfl) (by decide) ?_
            refine WL.yld (wanted_plain (by rfl)) (yld_assign (by rfl)) (by rfl) (by decide) ?_
            refine WL.done ?_
            exact WK.next hM0 (i + 1) (by omega) (by omega) (by repeat (first | exact KK.nil | refine KK.cons (by first | rfl | (simp; done)) ?_)) (by repeat (first | exact SelL.nil | exact SelL.self | apply SelL.cons | exact Sel.here | apply Sel.there | apply SelL.skip))
        · skip
          have hc39 := of_decide_eq_false hc39
          refine WK.exit ?_
          repeat (first | refine XQ.then_ ?_ | refine XQ.block (by rfl) ?_)
          refine XQ.here ?_
          refine WK.endBlock ?_
          refine WK.region ?_
          refine WL.yld (wanted_plain (by rfl)) (yld_move (by rfl)) (by rfl) (by decide) ?_
          refine WL.yld (wanted_plain (by rfl)) (yld_add (by rfl) (by rfl) (by first | exact w64 (by omega) (by omega) | rfl)) (by rfl) (by decide) ?_
          refine WL.yld (wanted_plain (by rfl)) (yld_assign (by rfl)) (by rfl) (by decide) ?_
          refine WL.done ?_
          obtain rfl : i = N0 := by omega
          exact WK.next hM (0 + 1) (by omega) (by omega) (by repeat (first | exact KK.nil | refine KK.cons (by first | rfl | (simp; done)) ?_)) (by repeat (first | exact SelL.nil | exact SelL.self | apply SelL.cons | exact Sel.here | apply Sel.there | apply SelL.skip))
      · skip
        refine WL.yld (wanted_plain (by rfl)) (yld_assign (by rfl)) (by rfl) (by decide) ?_
        refine WL.done ?_
        refine WK.block ?_
        refine WK.loop (ι := Nat) (fun i => i ≤ N1) (fun i => [(9, .slice (some ⟨eb, 0, none⟩) 2 2), (10, .slice (some ⟨b29, 0, none⟩) 2 2), (3, .int .i64 lost), (11, .int .i64 (1 : Int)), (12, .int .i64 (i : Int))]) (fun i => endR q0 (PE (1 + aroundM window 16) N0 ⟨0, 0, false⟩) :: endR q1 (PE (1 + aroundM (window.tdiv 16) 16) i ⟨0, 0, false⟩) :: sl true 33 1 (some ⟨eb, 0, none⟩) 2 2 [.pointer (some ⟨q0, 0, none⟩), .pointer (some ⟨q1, 0, none⟩)] :: sl true 3 1 (some ⟨b29, 0, none⟩) 2 2 [.int .i64 (N0 : Int), .int .i64 (N1 : Int)] :: F) (fun i => N1 - i) (0) (Nat.zero_le _) (by repeat (first | exact KK.nil | refine KK.cons (by first | rfl | (simp; done)) ?_)) (by repeat (first | exact SelL.nil | exact SelL.self | apply SelL.cons | exact Sel.here | apply Sel.there | apply SelL.skip)) ?_
        rintro i hi M1 hM1
        refine WK.seq ?_
        refine WK.seq ?_
        refine WK.region ?_
        refine WL.yld (wanted_plain (by rfl)) (yld_move (by rfl)) (by rfl) (by decide) ?_
        refine WL.yld (wanted_plain (by rfl)) (yld_move (by rfl)) (by rfl) (by decide) ?_
        refine WL.yld (wanted_plain (by rfl)) (yld_move (by rfl)) (by rfl) (by decide) ?_
        refine WL.yld (wanted_plain (by rfl)) (yld_indexAddrS (by rfl) (by rfl) (by exact Try.runUnderlying22) (by exact Try.sizeOf3) (by repeat (first | exact .here | apply Sel.there)) (1) (by first | rfl | omega) (by omega) (by omega) (by exact Nat.mul_one _)) (by rfl) (by decide) ?_
        refine WL.yld (wanted_plain (by rfl)) (yld_loadS (by rfl) (by exact Try.isAgg3) (by repeat (first | exact .here | apply Sel.there)) (by first | rfl | assumption | (simp; done) | (simp [*]; done))) (by rfl) (by decide) ?_
        refine WL.yld (wanted_plain (by rfl)) (yld_lss (by rfl) (by rfl)) (by rfl) (by decide) ?_
        refine WL.done ?_
        refine WK.cond (by rfl) (fun hc39 => ?_) (fun hc39 => ?_)
        · skip
          have hc39 := of_decide_eq_true hc39
          refine WK.skip ?_
          refine WK.seq ?_
          refine WK.block ?_
          refine WK.seq ?_
          refine WK.region ?_
          refine WL.yld (wanted_plain (by rfl)) (yld_move (by rfl)) (by rfl) (by decide) ?_
          refine WL.yld (wanted_plain (by rfl)) (yld_move (by rfl)) (by rfl) (by decide) ?_
          refine WL.yld (wanted_plain (by rfl)) (yld_indexAddrS (by rfl) (by rfl) (by exact Try.runUnderlying23) (by exact Try.sizeOf33) (by repeat (first | exact .here | apply Sel.there)) (1) (by first | rfl | omega) (by omega) (by omega) (by exact Nat.mul_one _)) (by rfl) (by decide) ?_
          refine WL.yld (wanted_plain (by rfl)) (yld_loadS (by rfl) (by exact Try.isAgg33) (by repeat (first | exact .here | apply Sel.there)) (by first | rfl | assumption | (simp; done) | (simp [*]; done))) (by rfl) (by decide) ?_
          refine WL.yld (wanted_plain (by rfl)) (yld_move (by rfl)) (by rfl) (by decide) ?_
          refine WL.yld (wanted_plain (by rfl)) (yld_convInt (by rfl) (by exact Try.runUnderlying3) (by exact Try.runUnderlying5) u8wrap) (by rfl) (by decide) ?_
          refine WL.eff (wanted_plain (by rfl)) (eff_mkSlice1 (by rfl) (by rfl) (by exact Try.runUnderlying31) (by exact Try.sizeOf5) (by exact Try.zeroValue5) (by rfl) (by rfl) (by decide) (by rfl)) (by rfl) (by decide) ?_
          rintro b48 -
          try dsimp only
          refine WL.eff (wanted_plain (by rfl)) (eff_call (by exact Try.call13) (by repeat (first | exact Evs.nil | apply Evs.cons | rfl)) (by repeat (first | exact SelL.nil | exact SelL.self | apply SelL.cons | exact Sel.here | apply Sel.there | apply SelL.skip)) (send_spec q1 (PE (1 + aroundM (window.tdiv 16) 16) i ⟨0, 0, false⟩) true (some ⟨b48, 0, none⟩) 1 [UInt8.ofNat i] (by simp))) (by rfl) (by decide) ?_
          rintro _ -
          rw [sendPE (by omega)]
          try dsimp only
          refine WL.yld (wanted_plain (by rfl)) (yld_neq (by rfl) (by rfl)) (by rfl) (by decide) ?_
          refine WL.done ?_
          refine WK.cond (by rfl) (fun hc50 => ?_) (fun hc50 => ?_)
          · skip
            have hc50 := of_decide_eq_true hc50
            first | omega | exact absurd rfl hc50 | (simp at hc50; done) | (exact absurd hc50 (by decide))
          · skip
            have hc50 := of_decide_eq_false hc50
            refine WK.skip ?_
            refine WK.endBlock ?_
            refine WK.region ?_
            refine WL.yld (wanted_plain (by rfl)) (yld_move (by rfl)) (by rfl) (by decide) ?_
            refine WL.yld (wanted_plain (by rfl)) (yld_add (by rfl) (by rfl) (by first | exact w64 (by omega) (by omega) | rfl)) (by rfl) (by decide) ?_
            refine WL.yld (wanted_plain (by rfl)) (yld_assign (by rfl)) (by rfl) (by decide) ?_
            refine WL.done ?_
            exact WK.next hM1 (i + 1) (by omega) (by omega) (by repeat (first | exact KK.nil | refine KK.cons (by first | rfl | (simp; done)) ?_)) (by repeat (first | exact SelL.nil | exact SelL.self | apply SelL.cons | exact Sel.here | apply Sel.there | apply SelL.skip))
        · skip
          have hc39 := of_decide_eq_false hc39
          refine WK.exit ?_
          repeat (first | refine XQ.then_ ?_ | refine XQ.block (by rfl) ?_)
          refine XQ.here ?_
          refine WK.endBlock ?_
          refine WK.region ?_
          refine WL.yld (wanted_plain (by rfl)) (yld_move (by rfl)) (by rfl) (by decide) ?_
          refine WL.yld (wanted_plain (by rfl)) (yld_add (by rfl) (by rfl) (by first | exact w64 (by omega) (by omega) | rfl)) (by rfl) (by decide) ?_
          refine WL.yld (wanted_plain (by rfl)) (yld_assign (by rfl)) (by rfl) (by decide) ?_
          refine WL.done ?_
          obtain rfl : i = N1 := by omega
          exact WK.next hM (1 + 1) (by omega) (by omega) (by repeat (first | exact KK.nil | refine KK.cons (by first | rfl | (simp; done)) ?_)) (by repeat (first | exact SelL.nil | exact SelL.self | apply SelL.cons | exact Sel.here | apply Sel.there | apply SelL.skip))
    · skip
      have hc31 := of_decide_eq_false hc31
      refine WK.exit ?_
      repeat (first | refine XQ.then_ ?_ | refine XQ.block (by rfl) ?_)
      refine XQ.here ?_
      refine WK.seq ?_
      refine WK.seq ?_
      refine WK.region ?_
      refine WL.yld (wanted_plain (by rfl)) (yld_assign (by rfl)) (by rfl) (by decide) ?_
      refine WL.done ?_
      refine WK.block ?_
      obtain rfl : k = 2 := by omega
      refine WK.loop (ι := Nat) (fun i => i ≤ 5) (fun i => [(9, .slice (some ⟨eb, 0, none⟩) 2 2), (10, .slice (some ⟨b29, 0, none⟩) 2 2), (3, .int .i64 lost), (13, .int .i64 (i : Int))]) (fun i => endR q0 (PE (1 + aroundM window 16) N0 ⟨0, 0, false⟩) :: endR q1 (PE (1 + aroundM (window.tdiv 16) 16) N1 ⟨0, 0, false⟩) :: sl true 33 1 (some ⟨eb, 0, none⟩) 2 2 [.pointer (some ⟨q0, 0, none⟩), .pointer (some ⟨q1, 0, none⟩)] :: sl true 3 1 (some ⟨b29, 0, none⟩) 2 2 [.int .i64 (N0 : Int), .int .i64 (N1 : Int)] :: F) (fun i => 5 - i) (0) (Nat.zero_le _) (by repeat (first | exact KK.nil | refine KK.cons (by first | rfl | (simp; done)) ?_)) (by repeat (first | exact SelL.nil | exact SelL.self | apply SelL.cons | exact Sel.here | apply Sel.there | apply SelL.skip)) ?_
      rintro i hi M hM
      refine WK.seq ?_
      refine WK.seq ?_
      refine WK.region ?_
      refine WL.yld (wanted_plain (by rfl)) (yld_move (by rfl)) (by rfl) (by decide) ?_
      refine WL.yld (wanted_plain (by rfl)) (yld_move (by rfl)) (by rfl) (by decide) ?_
      refine WL.eff (wanted_plain (by rfl)) (eff_call (by exact Try.call12) (by repeat (first | exact Evs.nil | apply Evs.cons | rfl)) (by repeat (first | exact SelL.nil | exact SelL.self | apply SelL.cons | exact Sel.here | apply Sel.there | apply SelL.skip)) (around_spec lost 5 h3 (by omega))) (by rfl) (by decide) ?_
      rintro _ -
      try dsimp only
      refine WL.yld (wanted_plain (by rfl)) (yld_lss (by rfl) (by rfl)) (by rfl) (by decide) ?_
      refine WL.done ?_
      refine WK.cond (by rfl) (fun hc54 => ?_) (fun hc54 => ?_)
      · skip
        have hc54 := of_decide_eq_true hc54
        refine WK.skip ?_
        refine WK.seq ?_
        refine WK.block ?_
        refine WK.region ?_
        obtain hp | hp : i % 2 = 0 ∨ i % 2 = 1 := by omega
        · skip
          refine WL.yld (wanted_plain (by rfl)) (yld_move (by rfl)) (by rfl) (by decide) ?_
          refine WL.yld (wanted_plain (by rfl)) (yld_move (by rfl)) (by rfl) (by decide) ?_
          refine WL.yld (wanted_plain (by rfl)) (yld_rem (by rfl) (by rfl) (by omega) (Int.tmod_eq_emod_of_nonneg (by omega))) (by rfl) (by decide) ?_
          refine WL.yld (wanted_plain (by rfl)) (yld_indexAddrS (by rfl) (by rfl) (by exact Try.runUnderlying23) (by exact Try.sizeOf33) (by repeat (first | exact .here | apply Sel.there)) (0) (by first | rfl | omega) (by omega) (by omega) (by exact Nat.mul_one _)) (by rfl) (by decide) ?_
          refine WL.yld (wanted_plain (by rfl)) (yld_loadS (by rfl) (by exact Try.isAgg33) (by repeat (first | exact .here | apply Sel.there)) (by first | rfl | assumption | (simp; done) | (simp [*]; done))) (by rfl) (by decide) ?_
          refine WL.eff (wanted_plain (by rfl)) (eff_call (by exact Try.call15) (by repeat (first | exact Evs.nil | apply Evs.cons | rfl)) (by repeat (first | exact SelL.nil | exact SelL.self | apply SelL.cons | exact Sel.here | apply Sel.there | apply SelL.skip)) (out_specR q0 (PE (1 + aroundM window 16) N0 ⟨0, 0, false⟩) (PE_ok (by omega) (by omega) (by simp) (by simp)))) (by rfl) (by decide) ?_
          rintro ⟨ad62, len62, cap62, vs62⟩ -
          rw [outPE0]
          try dsimp only
          refine WL.done ?_
          refine WK.endBlock ?_
          refine WK.region ?_
          refine WL.yld (wanted_plain (by rfl)) (yld_move (by rfl)) (by rfl) (by decide) ?_
          refine WL.yld (wanted_plain (by rfl)) (yld_add (by rfl) (by rfl) (by first | exact w64 (by omega) (by omega) | rfl)) (by rfl) (by decide) ?_
          refine WL.yld (wanted_plain (by rfl)) (yld_assign (by rfl)) (by rfl) (by decide) ?_
          refine WL.done ?_
          exact WK.next hM (i + 1) (by omega) (by omega) (by repeat (first | exact KK.nil | refine KK.cons (by first | rfl | (simp; done)) ?_)) (by repeat (first | exact SelL.nil | exact SelL.self | apply SelL.cons | exact Sel.here | apply Sel.there | apply SelL.skip))
        · skip
          refine WL.yld (wanted_plain (by rfl)) (yld_move (by rfl)) (by rfl) (by decide) ?_
          refine WL.yld (wanted_plain (by rfl)) (yld_move (by rfl)) (by rfl) (by decide) ?_
          refine WL.yld (wanted_plain (by rfl)) (yld_rem (by rfl) (by rfl) (by omega) (Int.tmod_eq_emod_of_nonneg (by omega))) (by rfl) (by decide) ?_
          refine WL.yld (wanted_plain (by rfl)) (yld_indexAddrS (by rfl) (by rfl) (by exact Try.runUnderlying23) (by exact Try.sizeOf33) (by repeat (first | exact .here | apply Sel.there)) (1) (by first | rfl | omega) (by omega) (by omega) (by exact Nat.mul_one _)) (by rfl) (by decide) ?_
          refine WL.yld (wanted_plain (by rfl)) (yld_loadS (by rfl) (by exact Try.isAgg33) (by repeat (first | exact .here | apply Sel.there)) (by first | rfl | assumption | (simp; done) | (simp [*]; done))) (by rfl) (by decide) ?_
          refine WL.eff (wanted_plain (by rfl)) (eff_call (by exact Try.call15) (by repeat (first | exact Evs.nil | apply Evs.cons | rfl)) (by repeat (first | exact SelL.nil | exact SelL.self | apply SelL.cons | exact Sel.here | apply Sel.there | apply SelL.skip)) (out_specR q1 (PE (1 + aroundM (window.tdiv 16) 16) N1 ⟨0, 0, false⟩) (PE_ok (by omega) (by omega) (by simp) (by simp)))) (by rfl) (by decide) ?_
          rintro ⟨ad62, len62, cap62, vs62⟩ -
          rw [outPE0]
          try dsimp only
          refine WL.done ?_
          refine WK.endBlock ?_
          refine WK.region ?_
          refine WL.yld (wanted_plain (by rfl)) (yld_move (by rfl)) (by rfl) (by decide) ?_
          refine WL.yld (wanted_plain (by rfl)) (yld_add (by rfl) (by rfl) (by first | exact w64 (by omega) (by omega) | rfl)) (by rfl) (by decide) ?_
          refine WL.yld (wanted_plain (by rfl)) (yld_assign (by rfl)) (by rfl) (by decide) ?_
          refine WL.done ?_
          exact WK.next hM (i + 1) (by omega) (by omega) (by repeat (first | exact KK.nil | refine KK.cons (by first | rfl | (simp; done)) ?_)) (by repeat (first | exact SelL.nil | exact SelL.self | apply SelL.cons | exact Sel.here | apply Sel.there | apply SelL.skip))
      · skip
        have hc54 := of_decide_eq_false hc54
        refine WK.exit ?_
        repeat (first | refine XQ.then_ ?_ | refine XQ.block (by rfl) ?_)
        refine XQ.here ?_
        refine WK.seq ?_
        refine WK.region ?_
        refine WL.eff (wanted_plain (by rfl)) (eff_mkSliceN (by exact Try.runUnderlying22) (by exact Try.sizeOf3) (by exact Try.zeroValue3) (by repeat (first | exact PrtsN.nil | apply PrtsN.cons | rfl)) (by decide) (by rfl) (by rfl) (by rfl) (by rfl)) (by rfl) (by decide) ?_
        rintro b63 -
        try dsimp only [List.cons_append, List.nil_append]
        try dsimp only
        refine WL.yld (wanted_plain (by rfl)) (yld_assign (by rfl)) (by rfl) (by decide) ?_
        refine WL.done ?_
        refine WK.seq ?_
        refine WK.seq ?_
        refine WK.region ?_
        refine WL.yld (wanted_plain (by rfl)) (yld_assign (by rfl)) (by rfl) (by decide) ?_
        refine WL.done ?_
        refine WK.block ?_
        refine WK.loop (ι := Nat × HE × HE) (fun p => p.1 ≤ max N0 N1 + 1 ∧ PI N0 N1 p.1 p.2.1 p.2.2) (fun p => [(9, .slice (some ⟨eb, 0, none⟩) 2 2), (10, .slice (some ⟨b29, 0, none⟩) 2 2), (14, .slice (some ⟨b63, 0, none⟩) 2 2), (15, .int .i64 (p.1 : Int))]) (fun p => endR q0 (PE (1 + aroundM window 16) N0 p.2.1) :: endR q1 (PE (1 + aroundM (window.tdiv 16) 16) N1 p.2.2) :: sl true 3 1 (some ⟨b63, 0, none⟩) 2 2 [.int .i64 (p.2.1.d : Int), .int .i64 (p.2.2.d : Int)] :: sl true 33 1 (some ⟨eb, 0, none⟩) 2 2 [.pointer (some ⟨q0, 0, none⟩), .pointer (some ⟨q1, 0, none⟩)] :: sl true 3 1 (some ⟨b29, 0, none⟩) 2 2 [.int .i64 (N0 : Int), .int .i64 (N1 : Int)] :: F) (fun p => max N0 N1 + 1 - p.1) ((0, ⟨0, 0, false⟩, ⟨0, 0, false⟩)) (⟨Nat.zero_le _, PI_start _ _⟩) (by repeat (first | exact KK.nil | refine KK.cons (by first | rfl | (simp; done)) ?_)) (by repeat (first | exact SelL.nil | exact SelL.self | apply SelL.cons | exact Sel.here | apply Sel.there | apply SelL.skip)) ?_
        rintro ⟨r, x0, x1⟩ ⟨hr, hp4⟩ M4 hM4
        dsimp only at hr hp4 ⊢
        refine WK.seq ?_
        refine WK.seq ?_
        refine WK.drawnQ (by kernel_rfl) [(0, 0), (1, 0), (2, 0), (3, 0), (4, 0), (5, 0), (6, 0), (7, 0), (8, 0)] (by kernel_rfl) (by kernel_rfl) (by kernel_rfl) ?_
        refine WO.yld (by rfl) (wanted_plain (by rfl)) (yld_move (by rfl)) (by rfl) (by decide) (by repeat (first | exact SelL.nil | exact SelL.self | apply SelL.cons | exact Sel.here | apply Sel.there | apply SelL.skip)) ?_
        refine WO.yld (by rfl) (wanted_plain (by rfl)) (yld_move (by rfl)) (by rfl) (by decide) (by repeat (first | exact SelL.nil | exact SelL.self | apply SelL.cons | exact Sel.here | apply Sel.there | apply SelL.skip)) ?_
        refine WO.yld (by rfl) (wanted_plain (by rfl)) (yld_indexAddrS (by rfl) (by rfl) (by exact Try.runUnderlying22) (by exact Try.sizeOf3) (by repeat (first | exact .here | apply Sel.there)) (0) (by first | rfl | omega) (by omega) (by omega) (by exact Nat.mul_one _)) (by rfl) (by decide) (by repeat (first | exact SelL.nil | exact SelL.self | apply SelL.cons | exact Sel.here | apply Sel.there | apply SelL.skip)) ?_
        refine WO.yld (by rfl) (wanted_plain (by rfl)) (yld_loadS (by rfl) (by exact Try.isAgg3) (by repeat (first | exact .here | apply Sel.there)) (by first | rfl | assumption | (simp; done) | (simp [*]; done))) (by rfl) (by decide) (by repeat (first | exact SelL.nil | exact SelL.self | apply SelL.cons | exact Sel.here | apply Sel.there | apply SelL.skip)) ?_
        refine WO.yld (by rfl) (wanted_plain (by rfl)) (yld_move (by rfl)) (by rfl) (by decide) (by repeat (first | exact SelL.nil | exact SelL.self | apply SelL.cons | exact Sel.here | apply Sel.there | apply SelL.skip)) ?_
        refine WO.yld (by rfl) (wanted_plain (by rfl)) (yld_indexAddrS (by rfl) (by rfl) (by exact Try.runUnderlying22) (by exact Try.sizeOf3) (by repeat (first | exact .here | apply Sel.there)) (1) (by first | rfl | omega) (by omega) (by omega) (by exact Nat.mul_one _)) (by rfl) (by decide) (by repeat (first | exact SelL.nil | exact SelL.self | apply SelL.cons | exact Sel.here | apply Sel.there | apply SelL.skip)) ?_
        refine WO.yld (by rfl) (wanted_plain (by rfl)) (yld_loadS (by rfl) (by exact Try.isAgg3) (by repeat (first | exact .here | apply Sel.there)) (by first | rfl | assumption | (simp; done) | (simp [*]; done))) (by rfl) (by decide) (by repeat (first | exact SelL.nil | exact SelL.self | apply SelL.cons | exact Sel.here | apply Sel.there | apply SelL.skip)) ?_
        refine WO.yld (by rfl) (wanted_plain (by rfl)) (yld_max (by rfl) (by rfl)) (by rfl) (by decide) (by repeat (first | exact SelL.nil | exact SelL.self | apply SelL.cons | exact Sel.here | apply Sel.there | apply SelL.skip)) ?_
        refine WO.yld (by rfl) (wanted_plain (by rfl)) (yld_leq (by rfl) (by rfl)) (by rfl) (by decide) (by repeat (first | exact SelL.nil | exact SelL.self | apply SelL.cons | exact Sel.here | apply Sel.there | apply SelL.skip)) ?_
        refine WO.done ?_
        refine WK.cond (by rfl) (fun hc72 => ?_) (fun hc72 => ?_)
        · skip
          have hc72 := of_decide_eq_true hc72
          refine WK.skip ?_
          refine WK.seq ?_
          refine WK.block ?_
          refine WK.seq ?_
          refine WK.region ?_
          refine WL.yld (wanted_plain (by rfl)) (yld_assign (by rfl)) (by rfl) (by decide) ?_
          refine WL.done ?_
          refine WK.block ?_
          refine WK.loop (ι := Nat × HE × HE) (fun p => p.1 ≤ 2 ∧ PK N0 N1 r p.1 p.2.1 p.2.2) (fun p => [(9, .slice (some ⟨eb, 0, none⟩) 2 2), (10, .slice (some ⟨b29, 0, none⟩) 2 2), (14, .slice (some ⟨b63, 0, none⟩) 2 2), (15, .int .i64 (r : Int)), (16, .int .i64 (p.1 : Int))]) (fun p => endR q0 (PE (1 + aroundM window 16) N0 p.2.1) :: endR q1 (PE (1 + aroundM (window.tdiv 16) 16) N1 p.2.2) :: sl true 3 1 (some ⟨b63, 0, none⟩) 2 2 [.int .i64 (p.2.1.d : Int), .int .i64 (p.2.2.d : Int)] :: sl true 33 1 (some ⟨eb, 0, none⟩) 2 2 [.pointer (some ⟨q0, 0, none⟩), .pointer (some ⟨q1, 0, none⟩)] :: sl true 3 1 (some ⟨b29, 0, none⟩) 2 2 [.int .i64 (N0 : Int), .int .i64 (N1 : Int)] :: F) (fun p => 2 - p.1) ((0, x0, x1)) (⟨Nat.zero_le _, hp4⟩) (by repeat (first | exact KK.nil | refine KK.cons (by first | rfl | (simp; done)) ?_)) (by repeat (first | exact SelL.nil | exact SelL.self | apply SelL.cons | exact Sel.here | apply Sel.there | apply SelL.skip)) ?_
          rintro ⟨k, y0, y1⟩ ⟨hk, hk5⟩ M5 hM5
          dsimp only at hk hk5 ⊢
          refine WK.seq ?_
          refine WK.seq ?_
          refine WK.region ?_
          refine WL.yld (wanted_plain (by rfl)) (yld_move (by rfl)) (by rfl) (by decide) ?_
          refine WL.yld (wanted_plain (by rfl)) (yld_lss (by rfl) (by rfl)) (by rfl) (by decide) ?_
          refine WL.done ?_
          refine WK.cond (by rfl) (fun hc76 => ?_) (fun hc76 => ?_)
          · skip
            have hc76 := of_decide_eq_true hc76
            refine WK.skip ?_
            refine WK.seq ?_
            refine WK.block ?_
            refine WK.seq ?_
            refine WK.region ?_
            obtain rfl | rfl : k = 0 ∨ k = 1 := by omega
            · skip
              have hp5 : PI N0 N1 r y0 y1 := hk5
              obtain ⟨p1, p2, p3, p4, p5, p6, p7, p8⟩ := id hp5
              refine WL.yld (wanted_plain (by rfl)) (yld_move (by rfl)) (by rfl) (by decide) ?_
              refine WL.yld (wanted_plain (by rfl)) (yld_move (by rfl)) (by rfl) (by decide) ?_
              refine WL.yld (wanted_plain (by rfl)) (yld_indexAddrS (by rfl) (by rfl) (by exact Try.runUnderlying23) (by exact Try.sizeOf33) (by repeat (first | exact .here | apply Sel.there)) (0) (by first | rfl | omega) (by omega) (by omega) (by exact Nat.mul_one _)) (by rfl) (by decide) ?_
              refine WL.yld (wanted_plain (by rfl)) (yld_loadS (by rfl) (by exact Try.isAgg33) (by repeat (first | exact .here | apply Sel.there)) (by first | rfl | assumption | (simp; done) | (simp [*]; done))) (by rfl) (by decide) ?_
              refine WL.eff (wanted_plain (by rfl)) (eff_call (by exact Try.call15) (by repeat (first | exact Evs.nil | apply Evs.cons | rfl)) (by repeat (first | exact SelL.nil | exact SelL.self | apply SelL.cons | exact Sel.here | apply Sel.there | apply SelL.skip)) (out_specR q0 (PE (1 + aroundM window 16) N0 y0) (PE_ok (by omega) (by omega) (by omega) (by omega)))) (by rfl) (by decide) ?_
              rintro ⟨ad83, len83, cap83, vs83⟩ ⟨hl83, hv83⟩
              rw [outPE] at hl83 ⊢
              dsimp only at hl83 hv83 ⊢
              rw [pkL_len] at hl83
              have hn0 : nm (1 + aroundM window 16) N0 y0 ≤ 16 := by unfold nm; omega
              generalize hnn : nm (1 + aroundM window 16) N0 y0 = n0 at hl83 hn0 ⊢
              have hnp := np_le y0 hn0
              try dsimp only
              refine WL.yld (wanted_plain (by rfl)) (yld_assign (by rfl)) (by rfl) (by decide) ?_
              refine WL.done ?_
              refine WK.seq ?_
              refine WK.region ?_
              refine WL.yld (wanted_plain (by rfl)) (yld_assign (by rfl)) (by rfl) (by decide) ?_
              refine WL.done ?_
              refine WK.block ?_
              refine WK.loop (ι := Nat) (fun i => i ≤ len83) (fun i => [(9, .slice (some ⟨eb, 0, none⟩) 2 2), (10, .slice (some ⟨b29, 0, none⟩) 2 2), (14, .slice (some ⟨b63, 0, none⟩) 2 2), (15, .int .i64 (r : Int)), (16, .int .i64 (0 : Int)), (17, .slice ad83 len83 cap83), (18, .int .i64 (i : Int))]) (fun i => endR q0 (PE (1 + aroundM window 16) N0 { y0 with o := false }) :: endR q1 (PE (1 + aroundM (window.tdiv 16) 16) N1 (recv n0 y0 y1 i)) :: sl true 3 1 (some ⟨b63, 0, none⟩) 2 2 [.int .i64 ((y0.d) : Int), .int .i64 (((recv n0 y0 y1 i).d + 0 : Nat) : Int)] :: sl true 44 3 ad83 len83 cap83 (pktC (pkL n0 y0) vs83) :: allR (byt 5 false) vs83 ((pkL n0 y0).map (·.b)) :: sl true 33 1 (some ⟨eb, 0, none⟩) 2 2 [.pointer (some ⟨q0, 0, none⟩), .pointer (some ⟨q1, 0, none⟩)] :: sl true 3 1 (some ⟨b29, 0, none⟩) 2 2 [.int .i64 (N0 : Int), .int .i64 (N1 : Int)] :: F) (fun i => len83 - i) (0) (Nat.zero_le _) (by repeat (first | exact KK.nil | refine KK.cons (by first | rfl | (simp; done)) ?_)) (by (try dsimp only); rw [recv_zero n0 (by omega)]; exact (by repeat (first | exact SelL.nil | exact SelL.self | apply SelL.cons | exact Sel.here | apply Sel.there | apply SelL.skip))) ?_
              rintro i hi M6 hM6
              refine WK.seq ?_
              refine WK.seq ?_
              refine WK.region ?_
              refine WL.yld (wanted_plain (by rfl)) (yld_move (by rfl)) (by rfl) (by decide) ?_
              refine WL.yld (wanted_plain (by rfl)) (yld_move (by rfl)) (by rfl) (by decide) ?_
              refine WL.yld (wanted_plain (by rfl)) (yld_len (by rfl) (by exact Try.runUnderlying35)) (by rfl) (by decide) ?_
              refine WL.yld (wanted_plain (by rfl)) (yld_lss (by rfl) (by rfl)) (by rfl) (by decide) ?_
              refine WL.done ?_
              refine WK.cond (by rfl) (fun hc87 => ?_) (fun hc87 => ?_)
              · skip
                have hc87 := of_decide_eq_true hc87
                refine WK.skip ?_
                refine WK.seq ?_
                refine WK.block ?_
                refine WK.seq ?_
                refine WK.drawn (by kernel_rfl) [(0, 0), (1, 0), (2, 0), (3, 0), (4, 0), (5, 0), (6, 0), (7, 0), (8, 0), (9, 1), (10, 0)] [sl true 33 1 (some ⟨eb, 0, none⟩) 2 2 [.pointer (some ⟨q0, 0, none⟩), .pointer (some ⟨q1, 0, none⟩)], sl true 44 3 ad83 len83 cap83 (pktC (pkL n0 y0) vs83)] (by kernel_rfl) (by kernel_rfl) (by kernel_rfl) ?_
                refine WO.yld (by rfl) (wanted_plain (by rfl)) (yld_move (by rfl)) (by rfl) (by decide) (by repeat (first | exact SelL.nil | exact SelL.self | apply SelL.cons | exact Sel.here | apply Sel.there | apply SelL.skip)) ?_
                refine WO.yld (by rfl) (wanted_plain (by rfl)) (yld_move (by rfl)) (by rfl) (by decide) (by repeat (first | exact SelL.nil | exact SelL.self | apply SelL.cons | exact Sel.here | apply Sel.there | apply SelL.skip)) ?_
                refine WO.yld (by rfl) (wanted_plain (by rfl)) (yld_sub (by rfl) (by rfl) (by first | exact w64 (by omega) (by omega) | rfl)) (by rfl) (by decide) (by repeat (first | exact SelL.nil | exact SelL.self | apply SelL.cons | exact Sel.here | apply Sel.there | apply SelL.skip)) ?_
                refine WO.yld (by rfl) (wanted_plain (by rfl)) (yld_indexAddrS (by rfl) (by rfl) (by exact Try.runUnderlying23) (by exact Try.sizeOf33) (by repeat (first | exact .here | apply Sel.there)) (1) (by first | rfl | omega) (by omega) (by omega) (by exact Nat.mul_one _)) (by rfl) (by decide) (by repeat (first | exact SelL.nil | exact SelL.self | apply SelL.cons | exact Sel.here | apply Sel.there | apply SelL.skip)) ?_
                refine WO.yld (by rfl) (wanted_plain (by rfl)) (yld_loadS (by rfl) (by exact Try.isAgg33) (by repeat (first | exact .here | apply Sel.there)) (by first | rfl | assumption | (simp; done) | (simp [*]; done))) (by rfl) (by decide) (by repeat (first | exact SelL.nil | exact SelL.self | apply SelL.cons | exact Sel.here | apply Sel.there | apply SelL.skip)) ?_
                refine WO.yld (by rfl) (wanted_plain (by rfl)) (yld_move (by rfl)) (by rfl) (by decide) (by repeat (first | exact SelL.nil | exact SelL.self | apply SelL.cons | exact Sel.here | apply Sel.there | apply SelL.skip)) ?_
                refine WO.yld (by rfl) (wanted_plain (by rfl)) (yld_move (by rfl)) (by rfl) (by decide) (by repeat (first | exact SelL.nil | exact SelL.self | apply SelL.cons | exact Sel.here | apply Sel.there | apply SelL.skip)) ?_
                refine WO.yld (by rfl) (wanted_plain (by rfl)) (yld_indexAddrS (by rfl) (by rfl) (by exact Try.runUnderlying35) (by exact Try.sizeOf44) (by repeat (first | exact .here | apply Sel.there)) (i) (by first | rfl | omega) (by omega) (by omega) (by rfl)) (by rfl) (by decide) (by repeat (first | exact SelL.nil | exact SelL.self | apply SelL.cons | exact Sel.here | apply Sel.there | apply SelL.skip)) ?_
                have hi6 : i < np n0 y0 := by omega
                have hb6 := pkL_b hi6
                refine WO.openS (fun w s => Sat.allByt hb6 (s.sel1 (A := allR (byt 5 false) vs83 ((pkL n0 y0).map (·.b))) (by repeat (first | exact .here | apply Sel.there)))) ?_
                rintro ⟨ad6, len6, cap6⟩ ⟨hv6, hl6⟩
                dsimp only at hv6 hl6
                subst hl6
                try dsimp only [List.cons_append, List.nil_append]
                refine WO.yld (by rfl) (wanted_plain (by rfl)) (yld_loadSA (by rfl) (by exact Try.isAgg44) (by exact Try.sizeOf44) (by repeat (first | exact .here | apply Sel.there)) (by exact pktC_cells (j := i) (pkL_get hi6) hv6)) (by rfl) (by decide) (by repeat (first | exact SelL.nil | exact SelL.self | apply SelL.cons | exact Sel.here | apply Sel.there | apply SelL.skip)) ?_
                refine WO.eff (by rfl) (wanted_plain (by rfl)) (eff_call (by exact Try.call19) (by repeat (first | exact Evs.nil | apply Evs.cons | rfl)) (by repeat (first | exact SelL.nil | exact SelL.self | apply SelL.cons | exact Sel.here | apply Sel.there | apply SelL.skip)) (in_spec q1 (PE (1 + aroundM (window.tdiv 16) 16) N1 (recv n0 y0 y1 i)) (PE_inok (by omega) (by have := recv_a n0 y0 y1 i; omega) (by have := recv_d n0 y0 y1 i; omega)) (pk n0 y0 i) false ad6 cap6)) (by rfl) (by decide) (by intro x; repeat (first | exact SelL.nil | exact SelL.self | apply SelL.cons | exact Sel.here | apply Sel.there | apply SelL.skip)) ?_
                rintro ⟨ad99, len99, cap99, vs99⟩ hl99
                rw [inPE (by omega) (by omega) (by omega) hi6 hn0] at hl99 ⊢
                dsimp only at hl99 ⊢
                try dsimp only
                refine WO.yld (by rfl) (wanted_plain (by rfl)) (yld_assign (by rfl)) (by rfl) (by decide) (by repeat (first | exact SelL.nil | exact SelL.self | apply SelL.cons | exact Sel.here | apply Sel.there | apply SelL.skip)) ?_
                refine WO.done ?_
                refine WK.seq ?_
                refine WK.region ?_
                refine WL.yld (wanted_plain (by rfl)) (yld_assign (by rfl)) (by rfl) (by decide) ?_
                refine WL.done ?_
                refine WK.block ?_
                refine WK.loop (ι := Nat) (fun j => j ≤ (outs n0 y0 y1 i).length) (fun j => [(9, .slice (some ⟨eb, 0, none⟩) 2 2), (10, .slice (some ⟨b29, 0, none⟩) 2 2), (14, .slice (some ⟨b63, 0, none⟩) 2 2), (15, .int .i64 (r : Int)), (16, .int .i64 (0 : Int)), (17, .slice ad83 len83 cap83), (18, .int .i64 (i : Int)), (19, .slice ad99 len99 cap99), (20, .int .i64 (j : Int))]) (fun j => endR q0 (PE (1 + aroundM window 16) N0 { y0 with o := false }) :: endR q1 (PE (1 + aroundM (window.tdiv 16) 16) N1 (recv n0 y0 y1 (i + 1))) :: sl true 3 1 (some ⟨b63, 0, none⟩) 2 2 [.int .i64 ((y0.d) : Int), .int .i64 (((recv n0 y0 y1 i).d + j : Nat) : Int)] :: sl true 31 1 ad99 len99 cap99 vs99 :: allR (byt 5 false) vs99 (outs n0 y0 y1 i) :: sl true 44 3 ad83 len83 cap83 (pktC (pkL n0 y0) vs83) :: allR (byt 5 false) vs83 ((pkL n0 y0).map (·.b)) :: sl true 33 1 (some ⟨eb, 0, none⟩) 2 2 [.pointer (some ⟨q0, 0, none⟩), .pointer (some ⟨q1, 0, none⟩)] :: sl true 3 1 (some ⟨b29, 0, none⟩) 2 2 [.int .i64 (N0 : Int), .int .i64 (N1 : Int)] :: F) (fun j => (outs n0 y0 y1 i).length - j) (0) (Nat.zero_le _) (by repeat (first | exact KK.nil | refine KK.cons (by first | rfl | (simp; done)) ?_)) (by repeat (first | exact SelL.nil | exact SelL.self | apply SelL.cons | exact Sel.here | apply Sel.there | apply SelL.skip)) ?_
                rintro j hj M7 hM7
                refine WK.seq ?_
                refine WK.seq ?_
                refine WK.region ?_
                refine WL.yld (wanted_plain (by rfl)) (yld_move (by rfl)) (by rfl) (by decide) ?_
                refine WL.yld (wanted_plain (by rfl)) (yld_move (by rfl)) (by rfl) (by decide) ?_
                refine WL.yld (wanted_plain (by rfl)) (yld_len (by rfl) (by exact Try.runUnderlying42)) (by rfl) (by decide) ?_
                refine WL.yld (wanted_plain (by rfl)) (yld_lss (by rfl) (by rfl)) (by rfl) (by decide) ?_
                refine WL.done ?_
                refine WK.cond (by rfl) (fun hc103 => ?_) (fun hc103 => ?_)
                · skip
                  have hc103 := of_decide_eq_true hc103
                  refine WK.skip ?_
                  refine WK.seq ?_
                  refine WK.block ?_
                  refine WK.seq ?_
                  refine WK.seq ?_
                  obtain ⟨hj0, ho7, hd7⟩ := outs_get (show j < (outs n0 y0 y1 i).length by omega)
                  refine WK.openS (fun w s => Sat.allByt (k := 0) (bs := [UInt8.ofNat (y0.a + i)]) (by rw [ho7]; rfl) (s.sel1 (A := allR (byt 5 false) vs99 (outs n0 y0 y1 i)) (by repeat (first | exact .here | apply Sel.there)))) ?_
                  rintro ⟨ad7, len7, cap7⟩ ⟨hv7, hl7⟩
                  dsimp only at hv7 hl7
                  subst hl7
                  try dsimp only [List.cons_append, List.nil_append]
                  refine WK.drawnQ (by kernel_rfl) [(0, 0), (1, 0), (2, 0), (3, 0), (4, 0), (5, 0), (6, 0), (7, 0), (8, 0), (9, 0), (10, 0), (11, 0), (12, 0), (13, 0), (14, 0), (15, 0), (16, 0), (17, 0), (18, 0), (19, 0), (20, 0)] (by kernel_rfl) (by kernel_rfl) (by kernel_rfl) ?_
                  refine WO.yld (by rfl) (wanted_plain (by rfl)) (yld_move (by rfl)) (by rfl) (by decide) (by repeat (first | exact SelL.nil | exact SelL.self | apply SelL.cons | exact Sel.here | apply Sel.there | apply SelL.skip)) ?_
                  refine WO.yld (by rfl) (wanted_plain (by rfl)) (yld_move (by rfl)) (by rfl) (by decide) (by repeat (first | exact SelL.nil | exact SelL.self | apply SelL.cons | exact Sel.here | apply Sel.there | apply SelL.skip)) ?_
                  refine WO.yld (by rfl) (wanted_plain (by rfl)) (yld_indexAddrS (by rfl) (by rfl) (by exact Try.runUnderlying42) (by exact Try.sizeOf31) (by repeat (first | exact .here | apply Sel.there)) (0) (by first | rfl | omega) (by omega) (by omega) (by exact Nat.mul_one _)) (by rfl) (by decide) (by repeat (first | exact SelL.nil | exact SelL.self | apply SelL.cons | exact Sel.here | apply Sel.there | apply SelL.skip)) ?_
                  refine WO.yld (by rfl) (wanted_plain (by rfl)) (yld_loadS (by rfl) (by exact Try.isAgg31) (by repeat (first | exact .here | apply Sel.there)) (by exact hv7)) (by rfl) (by decide) (by repeat (first | exact SelL.nil | exact SelL.self | apply SelL.cons | exact Sel.here | apply Sel.there | apply SelL.skip)) ?_
                  refine WO.yld (by rfl) (wanted_plain (by rfl)) (yld_len (by rfl) (by exact Try.runUnderlying31)) (by rfl) (by decide) (by repeat (first | exact SelL.nil | exact SelL.self | apply SelL.cons | exact Sel.here | apply Sel.there | apply SelL.skip)) ?_
                  refine WO.yld (by rfl) (wanted_plain (by rfl)) (yld_neq (by rfl) (by rfl)) (by rfl) (by decide) (by repeat (first | exact SelL.nil | exact SelL.self | apply SelL.cons | exact Sel.here | apply Sel.there | apply SelL.skip)) ?_
                  refine WO.yld (by rfl) (wanted_plain (by rfl)) (yld_move (by rfl)) (by rfl) (by decide) (by repeat (first | exact SelL.nil | exact SelL.self | apply SelL.cons | exact Sel.here | apply Sel.there | apply SelL.skip)) ?_
                  refine WO.split (d := 112) (by rfl) (fun hc112 => ?_) (fun hc112 => ?_)
                  · skip
                    have hc112 := of_decide_eq_true hc112
                    simp at hc112
                  · skip
                    have hc112 := of_decide_eq_false hc112
                    refine WO.yld (by rfl) (wanted_some (by rfl) (by rfl) (by rfl)) (yld_move (by rfl)) (by rfl) (by decide) (by repeat (first | exact SelL.nil | exact SelL.self | apply SelL.cons | exact Sel.here | apply Sel.there | apply SelL.skip)) ?_
                    refine WO.yld (by rfl) (wanted_some (by rfl) (by rfl) (by rfl)) (yld_move (by rfl)) (by rfl) (by decide) (by repeat (first | exact SelL.nil | exact SelL.self | apply SelL.cons | exact Sel.here | apply Sel.there | apply SelL.skip)) ?_
                    refine WO.yld (by rfl) (wanted_some (by rfl) (by rfl) (by rfl)) (yld_indexAddrS (by rfl) (by rfl) (by exact Try.runUnderlying42) (by exact Try.sizeOf31) (by repeat (first | exact .here | apply Sel.there)) (0) (by first | rfl | omega) (by omega) (by omega) (by exact Nat.mul_one _)) (by rfl) (by decide) (by repeat (first | exact SelL.nil | exact SelL.self | apply SelL.cons | exact Sel.here | apply Sel.there | apply SelL.skip)) ?_
                    refine WO.yld (by rfl) (wanted_some (by rfl) (by rfl) (by rfl)) (yld_loadS (by rfl) (by exact Try.isAgg31) (by repeat (first | exact .here | apply Sel.there)) (by exact hv7)) (by rfl) (by decide) (by repeat (first | exact SelL.nil | exact SelL.self | apply SelL.cons | exact Sel.here | apply Sel.there | apply SelL.skip)) ?_
                    refine WO.yld (by rfl) (wanted_some (by rfl) (by rfl) (by rfl)) (yld_indexAddrS (by rfl) (by rfl) (by exact Try.runUnderlying31) (by exact Try.sizeOf5) (by repeat (first | exact .here | apply Sel.there)) (0) (by first | rfl | omega) (by omega) (by omega) (by exact Nat.mul_one _)) (by rfl) (by decide) (by repeat (first | exact SelL.nil | exact SelL.self | apply SelL.cons | exact Sel.here | apply Sel.there | apply SelL.skip)) ?_
                    refine WO.yld (by rfl) (wanted_some (by rfl) (by rfl) (by rfl)) (yld_loadS (by rfl) (by exact Try.isAgg5) (by repeat (first | exact .here | apply Sel.there)) (by first | rfl | assumption | (simp; done) | (simp [*]; done))) (by rfl) (by decide) (by repeat (first | exact SelL.nil | exact SelL.self | apply SelL.cons | exact Sel.here | apply Sel.there | apply SelL.skip)) ?_
                    refine WO.yld (by rfl) (wanted_some (by rfl) (by rfl) (by rfl)) (yld_convInt (by rfl) (by exact Try.runUnderlying5) (by exact Try.runUnderlying3) (u8back (by omega))) (by rfl) (by decide) (by repeat (first | exact SelL.nil | exact SelL.self | apply SelL.cons | exact Sel.here | apply Sel.there | apply SelL.skip)) ?_
                    refine WO.yld (by rfl) (wanted_some (by rfl) (by rfl) (by rfl)) (yld_move (by rfl)) (by rfl) (by decide) (by repeat (first | exact SelL.nil | exact SelL.self | apply SelL.cons | exact Sel.here | apply Sel.there | apply SelL.skip)) ?_
                    refine WO.yld (by rfl) (wanted_some (by rfl) (by rfl) (by rfl)) (yld_move (by rfl)) (by rfl) (by decide) (by repeat (first | exact SelL.nil | exact SelL.self | apply SelL.cons | exact Sel.here | apply Sel.there | apply SelL.skip)) ?_
                    refine WO.yld (by rfl) (wanted_some (by rfl) (by rfl) (by rfl)) (yld_sub (by rfl) (by rfl) (by first | exact w64 (by omega) (by omega) | rfl)) (by rfl) (by decide) (by repeat (first | exact SelL.nil | exact SelL.self | apply SelL.cons | exact Sel.here | apply Sel.there | apply SelL.skip)) ?_
                    refine WO.yld (by rfl) (wanted_some (by rfl) (by rfl) (by rfl)) (yld_indexAddrS (by rfl) (by rfl) (by exact Try.runUnderlying22) (by exact Try.sizeOf3) (by repeat (first | exact .here | apply Sel.there)) (1) (by first | rfl | omega) (by omega) (by omega) (by exact Nat.mul_one _)) (by rfl) (by decide) (by repeat (first | exact SelL.nil | exact SelL.self | apply SelL.cons | exact Sel.here | apply Sel.there | apply SelL.skip)) ?_
                    refine WO.yld (by rfl) (wanted_some (by rfl) (by rfl) (by rfl)) (yld_loadS (by rfl) (by exact Try.isAgg3) (by repeat (first | exact .here | apply Sel.there)) (by first | rfl | assumption | (simp; done) | (simp [*]; done))) (by rfl) (by decide) (by repeat (first | exact SelL.nil | exact SelL.self | apply SelL.cons | exact Sel.here | apply Sel.there | apply SelL.skip)) ?_
                    refine WO.yld (by rfl) (wanted_some (by rfl) (by rfl) (by rfl)) (yld_neq (by rfl) (by rfl)) (by rfl) (by decide) (by repeat (first | exact SelL.nil | exact SelL.self | apply SelL.cons | exact Sel.here | apply Sel.there | apply SelL.skip)) ?_
                    refine WO.yld (by rfl) (wanted_plain (by rfl)) (yld_pick_false (by rfl) (by rfl)) (by rfl) (by decide) (by repeat (first | exact SelL.nil | exact SelL.self | apply SelL.cons | exact Sel.here | apply Sel.there | apply SelL.skip)) ?_
                    refine WO.done ?_
                    refine WK.cond (by rfl) (fun hc126 => ?_) (fun hc126 => ?_)
                    · skip
                      have hc126 := of_decide_eq_true hc126
                      omega
                    · skip
                      have hc126 := of_decide_eq_false hc126
                      refine WK.skip ?_
                      refine WK.region ?_
                      refine WL.yld (wanted_plain (by rfl)) (yld_move (by rfl)) (by rfl) (by decide) ?_
                      refine WL.yld (wanted_plain (by rfl)) (yld_move (by rfl)) (by rfl) (by decide) ?_
                      refine WL.yld (wanted_plain (by rfl)) (yld_sub (by rfl) (by rfl) (by first | exact w64 (by omega) (by omega) | rfl)) (by rfl) (by decide) ?_
                      refine WL.yld (wanted_plain (by rfl)) (yld_indexAddrS (by rfl) (by rfl) (by exact Try.runUnderlying22) (by exact Try.sizeOf3) (by repeat (first | exact .here | apply Sel.there)) (1) (by first | rfl | omega) (by omega) (by omega) (by exact Nat.mul_one _)) (by rfl) (by decide) ?_
                      refine WL.yld (wanted_plain (by rfl)) (yld_loadS (by rfl) (by exact Try.isAgg3) (by repeat (first | exact .here | apply Sel.there)) (by first | rfl | assumption | (simp; done) | (simp [*]; done))) (by rfl) (by decide) ?_
                      refine WL.yld (wanted_plain (by rfl)) (yld_add (by rfl) (by rfl) (by first | exact w64 (by omega) (by omega) | rfl)) (by rfl) (by decide) ?_
                      refine WL.yld (wanted_plain (by rfl)) (yld_indexAddrS (by rfl) (by rfl) (by exact Try.runUnderlying22) (by exact Try.sizeOf3) (by repeat (first | exact .here | apply Sel.there)) (1) (by first | rfl | omega) (by omega) (by omega) (by exact Nat.mul_one _)) (by rfl) (by decide) ?_
                      refine WL.eff0 (wanted_plain (by rfl)) (eff_storeS (by rfl) (by rfl) (by exact Try.sizeOf3) (by rfl) (by rfl) (by rfl) (by simp) (by repeat (first | exact .here | apply Sel.there)) (by repeat (first | exact SetAts.nil | apply SetAts.cons | exact SetAt.here | apply SetAt.there))) (by rfl) ?_
                      rintro _ -
                      try dsimp only
                      refine WL.done ?_
                      refine WK.endBlock ?_
                      refine WK.region ?_
                      refine WL.yld (wanted_plain (by rfl)) (yld_move (by rfl)) (by rfl) (by decide) ?_
                      refine WL.yld (wanted_plain (by rfl)) (yld_add (by rfl) (by rfl) (by first | exact w64 (by omega) (by omega) | rfl)) (by rfl) (by decide) ?_
                      refine WL.yld (wanted_plain (by rfl)) (yld_assign (by rfl)) (by rfl) (by decide) ?_
                      refine WL.done ?_
                      exact WK.next hM7 (j + 1) (by omega) (by omega) (by repeat (first | exact KK.nil | refine KK.cons (by first | rfl | (simp; done)) ?_)) (by repeat (first | exact SelL.nil | exact SelL.self | apply SelL.cons | exact Sel.here | apply Sel.there | apply SelL.skip))
                · skip
                  have hc103 := of_decide_eq_false hc103
                  refine WK.exit ?_
                  repeat (first | refine XQ.then_ ?_ | refine XQ.block (by rfl) ?_)
                  refine XQ.here ?_
                  refine WK.endBlock ?_
                  refine WK.region ?_
                  refine WL.yld (wanted_plain (by rfl)) (yld_move (by rfl)) (by rfl) (by decide) ?_
                  refine WL.yld (wanted_plain (by rfl)) (yld_add (by rfl) (by rfl) (by first | exact w64 (by omega) (by omega) | rfl)) (by rfl) (by decide) ?_
                  refine WL.yld (wanted_plain (by rfl)) (yld_assign (by rfl)) (by rfl) (by decide) ?_
                  refine WL.done ?_
                  obtain rfl : j = (outs n0 y0 y1 i).length := by omega
                  rw [outs_d hi6] at *
                  exact WK.next hM6 (i + 1) (by omega) (by omega) (by repeat (first | exact KK.nil | refine KK.cons (by first | rfl | (simp; done)) ?_)) (by repeat (first | exact SelL.nil | exact SelL.self | apply SelL.cons | exact Sel.here | apply Sel.there | apply SelL.skip))
              · skip
                have hc87 := of_decide_eq_false hc87
                refine WK.exit ?_
                repeat (first | refine XQ.then_ ?_ | refine XQ.block (by rfl) ?_)
                refine XQ.here ?_
                refine WK.endBlock ?_
                refine WK.region ?_
                refine WL.yld (wanted_plain (by rfl)) (yld_move (by rfl)) (by rfl) (by decide) ?_
                refine WL.yld (wanted_plain (by rfl)) (yld_add (by rfl) (by rfl) (by first | exact w64 (by omega) (by omega) | rfl)) (by rfl) (by decide) ?_
                refine WL.yld (wanted_plain (by rfl)) (yld_assign (by rfl)) (by rfl) (by decide) ?_
                refine WL.done ?_
                obtain rfl : i = len83 := by omega
                subst hl83
                subst hnn
                exact WK.next hM5 (1, { y0 with o := false }, recv (nm (1 + aroundM window 16) N0 y0) y0 y1 (np (nm (1 + aroundM window 16) N0 y0) y0)) ⟨by dsimp only; omega, (show PK N0 N1 r 1 _ _ from PI_step (W := (1 + aroundM window 16)) (by omega) hp5)⟩ (by dsimp only; omega) (by repeat (first | exact KK.nil | refine KK.cons (by first | rfl | (simp; done)) ?_)) (by repeat (first | exact SelL.nil | exact SelL.self | apply SelL.cons | exact Sel.here | apply Sel.there | apply SelL.skip))
            · skip
              have hp5 : PM N0 N1 r y0 y1 := hk5
              obtain ⟨p1, p2, p3, p4, p5, p6, p7⟩ := id hp5
              refine WL.yld (wanted_plain (by rfl)) (yld_move (by rfl)) (by rfl) (by decide) ?_
              refine WL.yld (wanted_plain (by rfl)) (yld_move (by rfl)) (by rfl) (by decide) ?_
              refine WL.yld (wanted_plain (by rfl)) (yld_indexAddrS (by rfl) (by rfl) (by exact Try.runUnderlying23) (by exact Try.sizeOf33) (by repeat (first | exact .here | apply Sel.there)) (1) (by first | rfl | omega) (by omega) (by omega) (by exact Nat.mul_one _)) (by rfl) (by decide) ?_
              refine WL.yld (wanted_plain (by rfl)) (yld_loadS (by rfl) (by exact Try.isAgg33) (by repeat (first | exact .here | apply Sel.there)) (by first | rfl | assumption | (simp; done) | (simp [*]; done))) (by rfl) (by decide) ?_
              refine WL.eff (wanted_plain (by rfl)) (eff_call (by exact Try.call15) (by repeat (first | exact Evs.nil | apply Evs.cons | rfl)) (by repeat (first | exact SelL.nil | exact SelL.self | apply SelL.cons | exact Sel.here | apply Sel.there | apply SelL.skip)) (out_specR q1 (PE (1 + aroundM (window.tdiv 16) 16) N1 y1) (PE_ok (by omega) (by omega) (by omega) (by omega)))) (by rfl) (by decide) ?_
              rintro ⟨ad83, len83, cap83, vs83⟩ ⟨hl83, hv83⟩
              rw [outPE] at hl83 ⊢
              dsimp only at hl83 hv83 ⊢
              rw [pkL_len] at hl83
              have hn1 : nm (1 + aroundM (window.tdiv 16) 16) N1 y1 ≤ 16 := by unfold nm; omega
              generalize hnn : nm (1 + aroundM (window.tdiv 16) 16) N1 y1 = n1 at hl83 hn1 ⊢
              have hnp := np_le y1 hn1
              try dsimp only
              refine WL.yld (wanted_plain (by rfl)) (yld_assign (by rfl)) (by rfl) (by decide) ?_
              refine WL.done ?_
              refine WK.seq ?_
              refine WK.region ?_
              refine WL.yld (wanted_plain (by rfl)) (yld_assign (by rfl)) (by rfl) (by decide) ?_
              refine WL.done ?_
              refine WK.block ?_
              refine WK.loop (ι := Nat) (fun i => i ≤ len83) (fun i => [(9, .slice (some ⟨eb, 0, none⟩) 2 2), (10, .slice (some ⟨b29, 0, none⟩) 2 2), (14, .slice (some ⟨b63, 0, none⟩) 2 2), (15, .int .i64 (r : Int)), (16, .int .i64 (1 : Int)), (17, .slice ad83 len83 cap83), (18, .int .i64 (i : Int))]) (fun i => endR q0 (PE (1 + aroundM window 16) N0 (recv n1 y1 y0 i)) :: endR q1 (PE (1 + aroundM (window.tdiv 16) 16) N1 { y1 with o := false }) :: sl true 3 1 (some ⟨b63, 0, none⟩) 2 2 [.int .i64 (((recv n1 y1 y0 i).d + 0 : Nat) : Int), .int .i64 ((y1.d) : Int)] :: sl true 44 3 ad83 len83 cap83 (pktC (pkL n1 y1) vs83) :: allR (byt 5 false) vs83 ((pkL n1 y1).map (·.b)) :: sl true 33 1 (some ⟨eb, 0, none⟩) 2 2 [.pointer (some ⟨q0, 0, none⟩), .pointer (some ⟨q1, 0, none⟩)] :: sl true 3 1 (some ⟨b29, 0, none⟩) 2 2 [.int .i64 (N0 : Int), .int .i64 (N1 : Int)] :: F) (fun i => len83 - i) (0) (Nat.zero_le _) (by repeat (first | exact KK.nil | refine KK.cons (by first | rfl | (simp; done)) ?_)) (by (try dsimp only); rw [recv_zero n1 (by omega)]; exact (by repeat (first | exact SelL.nil | exact SelL.self | apply SelL.cons | exact Sel.here | apply Sel.there | apply SelL.skip))) ?_
              rintro i hi M6 hM6
              refine WK.seq ?_
              refine WK.seq ?_
              refine WK.region ?_
              refine WL.yld (wanted_plain (by rfl)) (yld_move (by rfl)) (by rfl) (by decide) ?_
              refine WL.yld (wanted_plain (by rfl)) (yld_move (by rfl)) (by rfl) (by decide) ?_
              refine WL.yld (wanted_plain (by rfl)) (yld_len (by rfl) (by exact Try.runUnderlying35)) (by rfl) (by decide) ?_
              refine WL.yld (wanted_plain (by rfl)) (yld_lss (by rfl) (by rfl)) (by rfl) (by decide) ?_
              refine WL.done ?_
              refine WK.cond (by rfl) (fun hc87 => ?_) (fun hc87 => ?_)
              · skip
                have hc87 := of_decide_eq_true hc87
                refine WK.skip ?_
                refine WK.seq ?_
                refine WK.block ?_
                refine WK.seq ?_
                refine WK.drawn (by kernel_rfl) [(0, 0), (1, 0), (2, 0), (3, 0), (4, 0), (5, 0), (6, 0), (7, 0), (8, 0), (9, 1), (10, 0)] [sl true 33 1 (some ⟨eb, 0, none⟩) 2 2 [.pointer (some ⟨q0, 0, none⟩), .pointer (some ⟨q1, 0, none⟩)], sl true 44 3 ad83 len83 cap83 (pktC (pkL n1 y1) vs83)] (by kernel_rfl) (by kernel_rfl) (by kernel_rfl) ?_
                refine WO.yld (by rfl) (wanted_plain (by rfl)) (yld_move (by rfl)) (by rfl) (by decide) (by repeat (first | exact SelL.nil | exact SelL.self | apply SelL.cons | exact Sel.here | apply Sel.there | apply SelL.skip)) ?_
                refine WO.yld (by rfl) (wanted_plain (by rfl)) (yld_move (by rfl)) (by rfl) (by decide) (by repeat (first | exact SelL.nil | exact SelL.self | apply SelL.cons | exact Sel.here | apply Sel.there | apply SelL.skip)) ?_
                refine WO.yld (by rfl) (wanted_plain (by rfl)) (yld_sub (by rfl) (by rfl) (by first | exact w64 (by omega) (by omega) | rfl)) (by rfl) (by decide) (by repeat (first | exact SelL.nil | exact SelL.self | apply SelL.cons | exact Sel.here | apply Sel.there | apply SelL.skip)) ?_
                refine WO.yld (by rfl) (wanted_plain (by rfl)) (yld_indexAddrS (by rfl) (by rfl) (by exact Try.runUnderlying23) (by exact Try.sizeOf33) (by repeat (first | exact .here | apply Sel.there)) (0) (by first | rfl | omega) (by omega) (by omega) (by exact Nat.mul_one _)) (by rfl) (by decide) (by repeat (first | exact SelL.nil | exact SelL.self | apply SelL.cons | exact Sel.here | apply Sel.there | apply SelL.skip)) ?_
                refine WO.yld (by rfl) (wanted_plain (by rfl)) (yld_loadS (by rfl) (by exact Try.isAgg33) (by repeat (first | exact .here | apply Sel.there)) (by first | rfl | assumption | (simp; done) | (simp [*]; done))) (by rfl) (by decide) (by repeat (first | exact SelL.nil | exact SelL.self | apply SelL.cons | exact Sel.here | apply Sel.there | apply SelL.skip)) ?_
                refine WO.yld (by rfl) (wanted_plain (by rfl)) (yld_move (by rfl)) (by rfl) (by decide) (by repeat (first | exact SelL.nil | exact SelL.self | apply SelL.cons | exact Sel.here | apply Sel.there | apply SelL.skip)) ?_
                refine WO.yld (by rfl) (wanted_plain (by rfl)) (yld_move (by rfl)) (by rfl) (by decide) (by repeat (first | exact SelL.nil | exact SelL.self | apply SelL.cons | exact Sel.here | apply Sel.there | apply SelL.skip)) ?_
                refine WO.yld (by rfl) (wanted_plain (by rfl)) (yld_indexAddrS (by rfl) (by rfl) (by exact Try.runUnderlying35) (by exact Try.sizeOf44) (by repeat (first | exact .here | apply Sel.there)) (i) (by first | rfl | omega) (by omega) (by omega) (by rfl)) (by rfl) (by decide) (by repeat (first | exact SelL.nil | exact SelL.self | apply SelL.cons | exact Sel.here | apply Sel.there | apply SelL.skip)) ?_
                have hi6 : i < np n1 y1 := by omega
                have hb6 := pkL_b hi6
                refine WO.openS (fun w s => Sat.allByt hb6 (s.sel1 (A := allR (byt 5 false) vs83 ((pkL n1 y1).map (·.b))) (by repeat (first | exact .here | apply Sel.there)))) ?_
                rintro ⟨ad6, len6, cap6⟩ ⟨hv6, hl6⟩
                dsimp only at hv6 hl6
                subst hl6
                try dsimp only [List.cons_append, List.nil_append]
                refine WO.yld (by rfl) (wanted_plain (by rfl)) (yld_loadSA (by rfl) (by exact Try.isAgg44) (by exact Try.sizeOf44) (by repeat (first | exact .here | apply Sel.there)) (by exact pktC_cells (j := i) (pkL_get hi6) hv6)) (by rfl) (by decide) (by repeat (first | exact SelL.nil | exact SelL.self | apply SelL.cons | exact Sel.here | apply Sel.there | apply SelL.skip)) ?_
                refine WO.eff (by rfl) (wanted_plain (by rfl)) (eff_call (by exact Try.call19) (by repeat (first | exact Evs.nil | apply Evs.cons | rfl)) (by repeat (first | exact SelL.nil | exact SelL.self | apply SelL.cons | exact Sel.here | apply Sel.there | apply SelL.skip)) (in_spec q0 (PE (1 + aroundM window 16) N0 (recv n1 y1 y0 i)) (PE_inok (by omega) (by have := recv_a n1 y1 y0 i; omega) (by have := recv_d n1 y1 y0 i; omega)) (pk n1 y1 i) false ad6 cap6)) (by rfl) (by decide) (by intro x; repeat (first | exact SelL.nil | exact SelL.self | apply SelL.cons | exact Sel.here | apply Sel.there | apply SelL.skip)) ?_
                rintro ⟨ad99, len99, cap99, vs99⟩ hl99
                rw [inPE (by omega) (by omega) (by omega) hi6 hn1] at hl99 ⊢
                dsimp only at hl99 ⊢
                try dsimp only
                refine WO.yld (by rfl) (wanted_plain (by rfl)) (yld_assign (by rfl)) (by rfl) (by decide) (by repeat (first | exact SelL.nil | exact SelL.self | apply SelL.cons | exact Sel.here | apply Sel.there | apply SelL.skip)) ?_
                refine WO.done ?_
                refine WK.seq ?_
                refine WK.region ?_
                refine WL.yld (wanted_plain (by rfl)) (yld_assign (by rfl)) (by rfl) (by decide) ?_
                refine WL.done ?_
                refine WK.block ?_
                refine WK.loop (ι := Nat) (fun j => j ≤ (outs n1 y1 y0 i).length) (fun j => [(9, .slice (some ⟨eb, 0, none⟩) 2 2), (10, .slice (some ⟨b29, 0, none⟩) 2 2), (14, .slice (some ⟨b63, 0, none⟩) 2 2), (15, .int .i64 (r : Int)), (16, .int .i64 (1 : Int)), (17, .slice ad83 len83 cap83), (18, .int .i64 (i : Int)), (19, .slice ad99 len99 cap99), (20, .int .i64 (j : Int))]) (fun j => endR q0 (PE (1 + aroundM window 16) N0 (recv n1 y1 y0 (i + 1))) :: endR q1 (PE (1 + aroundM (window.tdiv 16) 16) N1 { y1 with o := false }) :: sl true 3 1 (some ⟨b63, 0, none⟩) 2 2 [.int .i64 (((recv n1 y1 y0 i).d + j : Nat) : Int), .int .i64 ((y1.d) : Int)] :: sl true 31 1 ad99 len99 cap99 vs99 :: allR (byt 5 false) vs99 (outs n1 y1 y0 i) :: sl true 44 3 ad83 len83 cap83 (pktC (pkL n1 y1) vs83) :: allR (byt 5 false) vs83 ((pkL n1 y1).map (·.b)) :: sl true 33 1 (some ⟨eb, 0, none⟩) 2 2 [.pointer (some ⟨q0, 0, none⟩), .pointer (some ⟨q1, 0, none⟩)] :: sl true 3 1 (some ⟨b29, 0, none⟩) 2 2 [.int .i64 (N0 : Int), .int .i64 (N1 : Int)] :: F) (fun j => (outs n1 y1 y0 i).length - j) (0) (Nat.zero_le _) (by repeat (first | exact KK.nil | refine KK.cons (by first | rfl | (simp; done)) ?_)) (by repeat (first | exact SelL.nil | exact SelL.self | apply SelL.cons | exact Sel.here | apply Sel.there | apply SelL.skip)) ?_
                rintro j hj M7 hM7
                refine WK.seq ?_
                refine WK.seq ?_
                refine WK.region ?_
                refine WL.yld (wanted_plain (by rfl)) (yld_move (by rfl)) (by rfl) (by decide) ?_
                refine WL.yld (wanted_plain (by rfl)) (yld_move (by rfl)) (by rfl) (by decide) ?_
                refine WL.yld (wanted_plain (by rfl)) (yld_len (by rfl) (by exact Try.runUnderlying42)) (by rfl) (by decide) ?_
                refine WL.yld (wanted_plain (by rfl)) (yld_lss (by rfl) (by rfl)) (by rfl) (by decide) ?_
                refine WL.done ?_
                refine WK.cond (by rfl) (fun hc103 => ?_) (fun hc103 => ?_)
                · skip
                  have hc103 := of_decide_eq_true hc103
                  refine WK.skip ?_
                  refine WK.seq ?_
                  refine WK.block ?_
                  refine WK.seq ?_
                  refine WK.seq ?_
                  obtain ⟨hj0, ho7, hd7⟩ := outs_get (show j < (outs n1 y1 y0 i).length by omega)
                  refine WK.openS (fun w s => Sat.allByt (k := 0) (bs := [UInt8.ofNat (y1.a + i)]) (by rw [ho7]; rfl) (s.sel1 (A := allR (byt 5 false) vs99 (outs n1 y1 y0 i)) (by repeat (first | exact .here | apply Sel.there)))) ?_
                  rintro ⟨ad7, len7, cap7⟩ ⟨hv7, hl7⟩
                  dsimp only at hv7 hl7
                  subst hl7
                  try dsimp only [List.cons_append, List.nil_append]
                  refine WK.drawnQ (by kernel_rfl) [(0, 0), (1, 0), (2, 0), (3, 0), (4, 0), (5, 0), (6, 0), (7, 0), (8, 0), (9, 0), (10, 0), (11, 0), (12, 0), (13, 0), (14, 0), (15, 0), (16, 0), (17, 0), (18, 0), (19, 0), (20, 0)] (by kernel_rfl) (by kernel_rfl) (by kernel_rfl) ?_
                  refine WO.yld (by rfl) (wanted_plain (by rfl)) (yld_move (by rfl)) (by rfl) (by decide) (by repeat (first | exact SelL.nil | exact SelL.self | apply SelL.cons | exact Sel.here | apply Sel.there | apply SelL.skip)) ?_
                  refine WO.yld (by rfl) (wanted_plain (by rfl)) (yld_move (by rfl)) (by rfl) (by decide) (by repeat (first | exact SelL.nil | exact SelL.self | apply SelL.cons | exact Sel.here | apply Sel.there | apply SelL.skip)) ?_
                  refine WO.yld (by rfl) (wanted_plain (by rfl)) (yld_indexAddrS (by rfl) (by rfl) (by exact Try.runUnderlying42) (by exact Try.sizeOf31) (by repeat (first | exact .here | apply Sel.there)) (0) (by first | rfl | omega) (by omega) (by omega) (by exact Nat.mul_one _)) (by rfl) (by decide) (by repeat (first | exact SelL.nil | exact SelL.self | apply SelL.cons | exact Sel.here | apply Sel.there | apply SelL.skip)) ?_
                  refine WO.yld (by rfl) (wanted_plain (by rfl)) (yld_loadS (by rfl) (by exact Try.isAgg31) (by repeat (first | exact .here | apply Sel.there)) (by exact hv7)) (by rfl) (by decide) (by repeat (first | exact SelL.nil | exact SelL.self | apply SelL.cons | exact Sel.here | apply Sel.there | apply SelL.skip)) ?_
                  refine WO.yld (by rfl) (wanted_plain (by rfl)) (yld_len (by rfl) (by exact Try.runUnderlying31)) (by rfl) (by decide) (by repeat (first | exact SelL.nil | exact SelL.self | apply SelL.cons | exact Sel.here | apply Sel.there | apply SelL.skip)) ?_
                  refine WO.yld (by rfl) (wanted_plain (by rfl)) (yld_neq (by rfl) (by rfl)) (by rfl) (by decide) (by repeat (first | exact SelL.nil | exact SelL.self | apply SelL.cons | exact Sel.here | apply Sel.there | apply SelL.skip)) ?_
                  refine WO.yld (by rfl) (wanted_plain (by rfl)) (yld_move (by rfl)) (by rfl) (by decide) (by repeat (first | exact SelL.nil | exact SelL.self | apply SelL.cons | exact Sel.here | apply Sel.there | apply SelL.skip)) ?_
                  refine WO.split (d := 112) (by rfl) (fun hc112 => ?_) (fun hc112 => ?_)
                  · skip
                    have hc112 := of_decide_eq_true hc112
                    simp at hc112
                  · skip
                    have hc112 := of_decide_eq_false hc112
                    refine WO.yld (by rfl) (wanted_some (by rfl) (by rfl) (by rfl)) (yld_move (by rfl)) (by rfl) (by decide) (by repeat (first | exact SelL.nil | exact SelL.self | apply SelL.cons | exact Sel.here | apply Sel.there | apply SelL.skip)) ?_
                    refine WO.yld (by rfl) (wanted_some (by rfl) (by rfl) (by rfl)) (yld_move (by rfl)) (by rfl) (by decide) (by repeat (first | exact SelL.nil | exact SelL.self | apply SelL.cons | exact Sel.here | apply Sel.there | apply SelL.skip)) ?_
                    refine WO.yld (by rfl) (wanted_some (by rfl) (by rfl) (by rfl)) (yld_indexAddrS (by rfl) (by rfl) (by exact Try.runUnderlying42) (by exact Try.sizeOf31) (by repeat (first | exact .here | apply Sel.there)) (0) (by first | rfl | omega) (by omega) (by omega) (by exact Nat.mul_one _)) (by rfl) (by decide) (by repeat (first | exact SelL.nil | exact SelL.self | apply SelL.cons | exact Sel.here | apply Sel.there | apply SelL.skip)) ?_
                    refine WO.yld (by rfl) (wanted_some (by rfl) (by rfl) (by rfl)) (yld_loadS (by rfl) (by exact Try.isAgg31) (by repeat (first | exact .here | apply Sel.there)) (by exact hv7)) (by rfl) (by decide) (by repeat (first | exact SelL.nil | exact SelL.self | apply SelL.cons | exact Sel.here | apply Sel.there | apply SelL.skip)) ?_
                    refine WO.yld (by rfl) (wanted_some (by rfl) (by rfl) (by rfl)) (yld_indexAddrS (by rfl) (by rfl) (by exact Try.runUnderlying31) (by exact Try.sizeOf5) (by repeat (first | exact .here | apply Sel.there)) (0) (by first | rfl | omega) (by omega) (by omega) (by exact Nat.mul_one _)) (by rfl) (by decide) (by repeat (first | exact SelL.nil | exact SelL.self | apply SelL.cons | exact Sel.here | apply Sel.there | apply SelL.skip)) ?_
                    refine WO.yld (by rfl) (wanted_some (by rfl) (by rfl) (by rfl)) (yld_loadS (by rfl) (by exact Try.isAgg5) (by repeat (first | exact .here | apply Sel.there)) (by first | rfl | assumption | (simp; done) | (simp [*]; done))) (by rfl) (by decide) (by repeat (first | exact SelL.nil | exact SelL.self | apply SelL.cons | exact Sel.here | apply Sel.there | apply SelL.skip)) ?_
                    refine WO.yld (by rfl) (wanted_some (by rfl) (by rfl) (by rfl)) (yld_convInt (by rfl) (by exact Try.runUnderlying5) (by exact Try.runUnderlying3) (u8back (by omega))) (by rfl) (by decide) (by repeat (first | exact SelL.nil | exact SelL.self | apply SelL.cons | exact Sel.here | apply Sel.there | apply SelL.skip)) ?_
                    refine WO.yld (by rfl) (wanted_some (by rfl) (by rfl) (by rfl)) (yld_move (by rfl)) (by rfl) (by decide) (by repeat (first | exact SelL.nil | exact SelL.self | apply SelL.cons | exact Sel.here | apply Sel.there | apply SelL.skip)) ?_
                    refine WO.yld (by rfl) (wanted_some (by rfl) (by rfl) (by rfl)) (yld_move (by rfl)) (by rfl) (by decide) (by repeat (first | exact SelL.nil | exact SelL.self | apply SelL.cons | exact Sel.here | apply Sel.there | apply SelL.skip)) ?_
                    refine WO.yld (by rfl) (wanted_some (by rfl) (by rfl) (by rfl)) (yld_sub (by rfl) (by rfl) (by first | exact w64 (by omega) (by omega) | rfl)) (by rfl) (by decide) (by repeat (first | exact SelL.nil | exact SelL.self | apply SelL.cons | exact Sel.here | apply Sel.there | apply SelL.skip)) ?_
                    refine WO.yld (by rfl) (wanted_some (by rfl) (by rfl) (by rfl)) (yld_indexAddrS (by rfl) (by rfl) (by exact Try.runUnderlying22) (by exact Try.sizeOf3) (by repeat (first | exact .here | apply Sel.there)) (0) (by first | rfl | omega) (by omega) (by omega) (by exact Nat.mul_one _)) (by rfl) (by decide) (by repeat (first | exact SelL.nil | exact SelL.self | apply SelL.cons | exact Sel.here | apply Sel.there | apply SelL.skip)) ?_
                    refine WO.yld (by rfl) (wanted_some (by rfl) (by rfl) (by rfl)) (yld_loadS (by rfl) (by exact Try.isAgg3) (by repeat (first | exact .here | apply Sel.there)) (by first | rfl | assumption | (simp; done) | (simp [*]; done))) (by rfl) (by decide) (by repeat (first | exact SelL.nil | exact SelL.self | apply SelL.cons | exact Sel.here | apply Sel.there | apply SelL.skip)) ?_
                    refine WO.yld (by rfl) (wanted_some (by rfl) (by rfl) (by rfl)) (yld_neq (by rfl) (by rfl)) (by rfl) (by decide) (by repeat (first | exact SelL.nil | exact SelL.self | apply SelL.cons | exact Sel.here | apply Sel.there | apply SelL.skip)) ?_
                    refine WO.yld (by rfl) (wanted_plain (by rfl)) (yld_pick_false (by rfl) (by rfl)) (by rfl) (by decide) (by repeat (first | exact SelL.nil | exact SelL.self | apply SelL.cons | exact Sel.here | apply Sel.there | apply SelL.skip)) ?_
                    refine WO.done ?_
                    refine WK.cond (by rfl) (fun hc126 => ?_) (fun hc126 => ?_)
                    · skip
                      have hc126 := of_decide_eq_true hc126
                      omega
                    · skip
                      have hc126 := of_decide_eq_false hc126
                      refine WK.skip ?_
                      refine WK.region ?_
                      refine WL.yld (wanted_plain (by rfl)) (yld_move (by rfl)) (by rfl) (by decide) ?_
                      refine WL.yld (wanted_plain (by rfl)) (yld_move (by rfl)) (by rfl) (by decide) ?_
                      refine WL.yld (wanted_plain (by rfl)) (yld_sub (by rfl) (by rfl) (by first | exact w64 (by omega) (by omega) | rfl)) (by rfl) (by decide) ?_
                      refine WL.yld (wanted_plain (by rfl)) (yld_indexAddrS (by rfl) (by rfl) (by exact Try.runUnderlying22) (by exact Try.sizeOf3) (by repeat (first | exact .here | apply Sel.there)) (0) (by first | rfl | omega) (by omega) (by omega) (by exact Nat.mul_one _)) (by rfl) (by decide) ?_
                      refine WL.yld (wanted_plain (by rfl)) (yld_loadS (by rfl) (by exact Try.isAgg3) (by repeat (first | exact .here | apply Sel.there)) (by first | rfl | assumption | (simp; done) | (simp [*]; done))) (by rfl) (by decide) ?_
                      refine WL.yld (wanted_plain (by rfl)) (yld_add (by rfl) (by rfl) (by first | exact w64 (by omega) (by omega) | rfl)) (by rfl) (by decide) ?_
                      refine WL.yld (wanted_plain (by rfl)) (yld_indexAddrS (by rfl) (by rfl) (by exact Try.runUnderlying22) (by exact Try.sizeOf3) (by repeat (first | exact .here | apply Sel.there)) (0) (by first | rfl | omega) (by omega) (by omega) (by exact Nat.mul_one _)) (by rfl) (by decide) ?_
                      refine WL.eff0 (wanted_plain (by rfl)) (eff_storeS (by rfl) (by rfl) (by exact Try.sizeOf3) (by rfl) (by rfl) (by rfl) (by simp) (by repeat (first | exact .here | apply Sel.there)) (by repeat (first | exact SetAts.nil | apply SetAts.cons | exact SetAt.here | apply SetAt.there))) (by rfl) ?_
                      rintro _ -
                      try dsimp only
                      refine WL.done ?_
                      refine WK.endBlock ?_
                      refine WK.region ?_
                      refine WL.yld (wanted_plain (by rfl)) (yld_move (by rfl)) (by rfl) (by decide) ?_
                      refine WL.yld (wanted_plain (by rfl)) (yld_add (by rfl) (by rfl) (by first | exact w64 (by omega) (by omega) | rfl)) (by rfl) (by decide) ?_
                      refine WL.yld (wanted_plain (by rfl)) (yld_assign (by rfl)) (by rfl) (by decide) ?_
                      refine WL.done ?_
                      exact WK.next hM7 (j + 1) (by omega) (by omega) (by repeat (first | exact KK.nil | refine KK.cons (by first | rfl | (simp; done)) ?_)) (by repeat (first | exact SelL.nil | exact SelL.self | apply SelL.cons | exact Sel.here | apply Sel.there | apply SelL.skip))
                · skip
                  have hc103 := of_decide_eq_false hc103
                  refine WK.exit ?_
                  repeat (first | refine XQ.then_ ?_ | refine XQ.block (by rfl) ?_)
                  refine XQ.here ?_
                  refine WK.endBlock ?_
                  refine WK.region ?_
                  refine WL.yld (wanted_plain (by rfl)) (yld_move (by rfl)) (by rfl) (by decide) ?_
                  refine WL.yld (wanted_plain (by rfl)) (yld_add (by rfl) (by rfl) (by first | exact w64 (by omega) (by omega) | rfl)) (by rfl) (by decide) ?_
                  refine WL.yld (wanted_plain (by rfl)) (yld_assign (by rfl)) (by rfl) (by decide) ?_
                  refine WL.done ?_
                  obtain rfl : j = (outs n1 y1 y0 i).length := by omega
                  rw [outs_d hi6] at *
                  exact WK.next hM6 (i + 1) (by omega) (by omega) (by repeat (first | exact KK.nil | refine KK.cons (by first | rfl | (simp; done)) ?_)) (by repeat (first | exact SelL.nil | exact SelL.self | apply SelL.cons | exact Sel.here | apply Sel.there | apply SelL.skip))
              · skip
                have hc87 := of_decide_eq_false hc87
                refine WK.exit ?_
                repeat (first | refine XQ.then_ ?_ | refine XQ.block (by rfl) ?_)
                refine XQ.here ?_
                refine WK.endBlock ?_
                refine WK.region ?_
                refine WL.yld (wanted_plain (by rfl)) (yld_move (by rfl)) (by rfl) (by decide) ?_
                refine WL.yld (wanted_plain (by rfl)) (yld_add (by rfl) (by rfl) (by first | exact w64 (by omega) (by omega) | rfl)) (by rfl) (by decide) ?_
                refine WL.yld (wanted_plain (by rfl)) (yld_assign (by rfl)) (by rfl) (by decide) ?_
                refine WL.done ?_
                obtain rfl : i = len83 := by omega
                subst hl83
                subst hnn
                exact WK.next hM5 (2, recv (nm (1 + aroundM (window.tdiv 16) 16) N1 y1) y1 y0 (np (nm (1 + aroundM (window.tdiv 16) 16) N1 y1) y1), { y1 with o := false }) ⟨by dsimp only; omega, (show PK N0 N1 r 2 _ _ from PM_step (W := (1 + aroundM (window.tdiv 16) 16)) (by omega) hp5)⟩ (by dsimp only; omega) (by repeat (first | exact KK.nil | refine KK.cons (by first | rfl | (simp; done)) ?_)) (by repeat (first | exact SelL.nil | exact SelL.self | apply SelL.cons | exact Sel.here | apply Sel.there | apply SelL.skip))
          · skip
            have hc76 := of_decide_eq_false hc76
            refine WK.exit ?_
            repeat (first | refine XQ.then_ ?_ | refine XQ.block (by rfl) ?_)
            refine XQ.here ?_
            refine WK.endBlock ?_
            refine WK.region ?_
            refine WL.yld (wanted_plain (by rfl)) (yld_move (by rfl)) (by rfl) (by decide) ?_
            refine WL.yld (wanted_plain (by rfl)) (yld_add (by rfl) (by rfl) (by first | exact w64 (by omega) (by omega) | rfl)) (by rfl) (by decide) ?_
            refine WL.yld (wanted_plain (by rfl)) (yld_assign (by rfl)) (by rfl) (by decide) ?_
            refine WL.done ?_
            obtain rfl : k = 2 := by omega
            exact WK.next hM4 (r + 1, y0, y1) ⟨by omega, hk5⟩ (by dsimp only; omega) (by repeat (first | exact KK.nil | refine KK.cons (by first | rfl | (simp; done)) ?_)) (by repeat (first | exact SelL.nil | exact SelL.self | apply SelL.cons | exact Sel.here | apply Sel.there | apply SelL.skip))
        · skip
          have hc72 := of_decide_eq_false hc72
          obtain ⟨e1, e2, e3, e4⟩ := PI_end (by omega) hp4
          refine WK.exit ?_
          repeat (first | refine XQ.then_ ?_ | refine XQ.block (by rfl) ?_)
          refine XQ.here ?_
          refine WK.seq ?_
          refine WK.drawn (by kernel_rfl) [(0, 0), (1, 0), (2, 0), (3, 0), (4, 0), (5, 0), (6, 0), (7, 0), (8, 0), (9, 0), (10, 0), (11, 0), (12, 0), (13, 0), (14, 0), (15, 0), (16, 0), (17, 0), (18, 0), (19, 0), (20, 1), (21, 0), (22, 0), (23, 0), (24, 0), (25, 0), (26, 0), (27, 1), (28, 0), (29, 0), (30, 0), (31, 1), (32, 0), (33, 0)] [sl true 3 1 (some ⟨b63, 0, none⟩) 2 2 [.int .i64 (x0.d : Int), .int .i64 (x1.d : Int)], sl true 33 1 (some ⟨eb, 0, none⟩) 2 2 [.pointer (some ⟨q0, 0, none⟩), .pointer (some ⟨q1, 0, none⟩)], sl true 3 1 (some ⟨b29, 0, none⟩) 2 2 [.int .i64 (N0 : Int), .int .i64 (N1 : Int)]] (by kernel_rfl) (by kernel_rfl) (by kernel_rfl) ?_
          refine WO.yld (by rfl) (wanted_plain (by rfl)) (yld_move (by rfl)) (by rfl) (by decide) (by repeat (first | exact SelL.nil | exact SelL.self | apply SelL.cons | exact Sel.here | apply Sel.there | apply SelL.skip)) ?_
          refine WO.yld (by rfl) (wanted_plain (by rfl)) (yld_indexAddrS (by rfl) (by rfl) (by exact Try.runUnderlying22) (by exact Try.sizeOf3) (by repeat (first | exact .here | apply Sel.there)) (0) (by first | rfl | omega) (by omega) (by omega) (by exact Nat.mul_one _)) (by rfl) (by decide) (by repeat (first | exact SelL.nil | exact SelL.self | apply SelL.cons | exact Sel.here | apply Sel.there | apply SelL.skip)) ?_
          refine WO.yld (by rfl) (wanted_plain (by rfl)) (yld_loadS (by rfl) (by exact Try.isAgg3) (by repeat (first | exact .here | apply Sel.there)) (by first | rfl | assumption | (simp; done) | (simp [*]; done))) (by rfl) (by decide) (by repeat (first | exact SelL.nil | exact SelL.self | apply SelL.cons | exact Sel.here | apply Sel.there | apply SelL.skip)) ?_
          refine WO.yld (by rfl) (wanted_plain (by rfl)) (yld_move (by rfl)) (by rfl) (by decide) (by repeat (first | exact SelL.nil | exact SelL.self | apply SelL.cons | exact Sel.here | apply Sel.there | apply SelL.skip)) ?_
          refine WO.yld (by rfl) (wanted_plain (by rfl)) (yld_indexAddrS (by rfl) (by rfl) (by exact Try.runUnderlying22) (by exact Try.sizeOf3) (by repeat (first | exact .here | apply Sel.there)) (1) (by first | rfl | omega) (by omega) (by omega) (by exact Nat.mul_one _)) (by rfl) (by decide) (by repeat (first | exact SelL.nil | exact SelL.self | apply SelL.cons | exact Sel.here | apply Sel.there | apply SelL.skip)) ?_
          refine WO.yld (by rfl) (wanted_plain (by rfl)) (yld_loadS (by rfl) (by exact Try.isAgg3) (by repeat (first | exact .here | apply Sel.there)) (by first | rfl | assumption | (simp; done) | (simp [*]; done))) (by rfl) (by decide) (by repeat (first | exact SelL.nil | exact SelL.self | apply SelL.cons | exact Sel.here | apply Sel.there | apply SelL.skip)) ?_
          refine WO.yld (by rfl) (wanted_plain (by rfl)) (yld_eql (by rfl) (by rfl)) (by rfl) (by decide) (by repeat (first | exact SelL.nil | exact SelL.self | apply SelL.cons | exact Sel.here | apply Sel.there | apply SelL.skip)) ?_
          refine WO.yld (by rfl) (wanted_plain (by rfl)) (yld_move (by rfl)) (by rfl) (by decide) (by repeat (first | exact SelL.nil | exact SelL.self | apply SelL.cons | exact Sel.here | apply Sel.there | apply SelL.skip)) ?_
          refine WO.split (d := 141) (by rfl) (fun hc141 => ?_) (fun hc141 => ?_)
          · skip
            have hc141 := of_decide_eq_true hc141
            refine WO.yld (by rfl) (wanted_some (by rfl) (by rfl) (by rfl)) (yld_move (by rfl)) (by rfl) (by decide) (by repeat (first | exact SelL.nil | exact SelL.self | apply SelL.cons | exact Sel.here | apply Sel.there | apply SelL.skip)) ?_
            refine WO.yld (by rfl) (wanted_some (by rfl) (by rfl) (by rfl)) (yld_indexAddrS (by rfl) (by rfl) (by exact Try.runUnderlying22) (by exact Try.sizeOf3) (by repeat (first | exact .here | apply Sel.there)) (1) (by first | rfl | omega) (by omega) (by omega) (by exact Nat.mul_one _)) (by rfl) (by decide) (by repeat (first | exact SelL.nil | exact SelL.self | apply SelL.cons | exact Sel.here | apply Sel.there | apply SelL.skip)) ?_
            refine WO.yld (by rfl) (wanted_some (by rfl) (by rfl) (by rfl)) (yld_loadS (by rfl) (by exact Try.isAgg3) (by repeat (first | exact .here | apply Sel.there)) (by first | rfl | assumption | (simp; done) | (simp [*]; done))) (by rfl) (by decide) (by repeat (first | exact SelL.nil | exact SelL.self | apply SelL.cons | exact Sel.here | apply Sel.there | apply SelL.skip)) ?_
            refine WO.yld (by rfl) (wanted_some (by rfl) (by rfl) (by rfl)) (yld_move (by rfl)) (by rfl) (by decide) (by repeat (first | exact SelL.nil | exact SelL.self | apply SelL.cons | exact Sel.here | apply Sel.there | apply SelL.skip)) ?_
            refine WO.yld (by rfl) (wanted_some (by rfl) (by rfl) (by rfl)) (yld_indexAddrS (by rfl) (by rfl) (by exact Try.runUnderlying22) (by exact Try.sizeOf3) (by repeat (first | exact .here | apply Sel.there)) (0) (by first | rfl | omega) (by omega) (by omega) (by exact Nat.mul_one _)) (by rfl) (by decide) (by repeat (first | exact SelL.nil | exact SelL.self | apply SelL.cons | exact Sel.here | apply Sel.there | apply SelL.skip)) ?_
            refine WO.yld (by rfl) (wanted_some (by rfl) (by rfl) (by rfl)) (yld_loadS (by rfl) (by exact Try.isAgg3) (by repeat (first | exact .here | apply Sel.there)) (by first | rfl | assumption | (simp; done) | (simp [*]; done))) (by rfl) (by decide) (by repeat (first | exact SelL.nil | exact SelL.self | apply SelL.cons | exact Sel.here | apply Sel.there | apply SelL.skip)) ?_
            refine WO.yld (by rfl) (wanted_some (by rfl) (by rfl) (by rfl)) (yld_eql (by rfl) (by rfl)) (by rfl) (by decide) (by repeat (first | exact SelL.nil | exact SelL.self | apply SelL.cons | exact Sel.here | apply Sel.there | apply SelL.skip)) ?_
            refine WO.yld (by rfl) (wanted_plain (by rfl)) (yld_pick_true (by rfl) (by rfl)) (by rfl) (by decide) (by repeat (first | exact SelL.nil | exact SelL.self | apply SelL.cons | exact Sel.here | apply Sel.there | apply SelL.skip)) ?_
            refine WO.yld (by rfl) (wanted_plain (by rfl)) (yld_move (by rfl)) (by rfl) (by decide) (by repeat (first | exact SelL.nil | exact SelL.self | apply SelL.cons | exact Sel.here | apply Sel.there | apply SelL.skip)) ?_
            refine WO.split (d := 150) (by rfl) (fun hc150 => ?_) (fun hc150 => ?_)
            · skip
              have hc150 := of_decide_eq_true hc150
              refine WO.yld (by rfl) (wanted_some (by rfl) (by rfl) (by rfl)) (yld_move (by rfl)) (by rfl) (by decide) (by repeat (first | exact SelL.nil | exact SelL.self | apply SelL.cons | exact Sel.here | apply Sel.there | apply SelL.skip)) ?_
              refine WO.yld (by rfl) (wanted_some (by rfl) (by rfl) (by rfl)) (yld_indexAddrS (by rfl) (by rfl) (by exact Try.runUnderlying23) (by exact Try.sizeOf33) (by repeat (first | exact .here | apply Sel.there)) (0) (by first | rfl | omega) (by omega) (by omega) (by exact Nat.mul_one _)) (by rfl) (by decide) (by repeat (first | exact SelL.nil | exact SelL.self | apply SelL.cons | exact Sel.here | apply Sel.there | apply SelL.skip)) ?_
              refine WO.yld (by rfl) (wanted_some (by rfl) (by rfl) (by rfl)) (yld_loadS (by rfl) (by exact Try.isAgg33) (by repeat (first | exact .here | apply Sel.there)) (by first | rfl | assumption | (simp; done) | (simp [*]; done))) (by rfl) (by decide) (by repeat (first | exact SelL.nil | exact SelL.self | apply SelL.cons | exact Sel.here | apply Sel.there | apply SelL.skip)) ?_
              refine WO.eff (by rfl) (wanted_some (by rfl) (by rfl) (by rfl)) (eff_call (by exact Try.call22) (by repeat (first | exact Evs.nil | apply Evs.cons | rfl)) (by repeat (first | exact SelL.nil | exact SelL.self | apply SelL.cons | exact Sel.here | apply Sel.there | apply SelL.skip)) (waiting_spec q0 (PE (1 + aroundM window 16) N0 x0))) (by rfl) (by decide) (by intro x; repeat (first | exact SelL.nil | exact SelL.self | apply SelL.cons | exact Sel.here | apply Sel.there | apply SelL.skip)) ?_
              rintro _ -
              rw [show (PE (1 + aroundM window 16) N0 x0).waiting.length = N0 - x0.a from msgs_len _ _]
              try dsimp only
              refine WO.yld (by rfl) (wanted_some (by rfl) (by rfl) (by rfl)) (yld_eql (by rfl) (by rfl)) (by rfl) (by decide) (by repeat (first | exact SelL.nil | exact SelL.self | apply SelL.cons | exact Sel.here | apply Sel.there | apply SelL.skip)) ?_
              refine WO.yld (by rfl) (wanted_plain (by rfl)) (yld_pick_true (by rfl) (by rfl)) (by rfl) (by decide) (by repeat (first | exact SelL.nil | exact SelL.self | apply SelL.cons | exact Sel.here | apply Sel.there | apply SelL.skip)) ?_
              refine WO.yld (by rfl) (wanted_plain (by rfl)) (yld_move (by rfl)) (by rfl) (by decide) (by repeat (first | exact SelL.nil | exact SelL.self | apply SelL.cons | exact Sel.here | apply Sel.there | apply SelL.skip)) ?_
              refine WO.split (d := 157) (by rfl) (fun hc157 => ?_) (fun hc157 => ?_)
              · skip
                have hc157 := of_decide_eq_true hc157
                refine WO.yld (by rfl) (wanted_some (by rfl) (by rfl) (by rfl)) (yld_move (by rfl)) (by rfl) (by decide) (by repeat (first | exact SelL.nil | exact SelL.self | apply SelL.cons | exact Sel.here | apply Sel.there | apply SelL.skip)) ?_
                refine WO.yld (by rfl) (wanted_some (by rfl) (by rfl) (by rfl)) (yld_indexAddrS (by rfl) (by rfl) (by exact Try.runUnderlying23) (by exact Try.sizeOf33) (by repeat (first | exact .here | apply Sel.there)) (1) (by first | rfl | omega) (by omega) (by omega) (by exact Nat.mul_one _)) (by rfl) (by decide) (by repeat (first | exact SelL.nil | exact SelL.self | apply SelL.cons | exact Sel.here | apply Sel.there | apply SelL.skip)) ?_
                refine WO.yld (by rfl) (wanted_some (by rfl) (by rfl) (by rfl)) (yld_loadS (by rfl) (by exact Try.isAgg33) (by repeat (first | exact .here | apply Sel.there)) (by first | rfl | assumption | (simp; done) | (simp [*]; done))) (by rfl) (by decide) (by repeat (first | exact SelL.nil | exact SelL.self | apply SelL.cons | exact Sel.here | apply Sel.there | apply SelL.skip)) ?_
                refine WO.eff (by rfl) (wanted_some (by rfl) (by rfl) (by rfl)) (eff_call (by exact Try.call22) (by repeat (first | exact Evs.nil | apply Evs.cons | rfl)) (by repeat (first | exact SelL.nil | exact SelL.self | apply SelL.cons | exact Sel.here | apply Sel.there | apply SelL.skip)) (waiting_spec q1 (PE (1 + aroundM (window.tdiv 16) 16) N1 x1))) (by rfl) (by decide) (by intro x; repeat (first | exact SelL.nil | exact SelL.self | apply SelL.cons | exact Sel.here | apply Sel.there | apply SelL.skip)) ?_
                rintro _ -
                rw [show (PE (1 + aroundM (window.tdiv 16) 16) N1 x1).waiting.length = N1 - x1.a from msgs_len _ _]
                try dsimp only
                refine WO.yld (by rfl) (wanted_some (by rfl) (by rfl) (by rfl)) (yld_eql (by rfl) (by rfl)) (by rfl) (by decide) (by repeat (first | exact SelL.nil | exact SelL.self | apply SelL.cons | exact Sel.here | apply Sel.there | apply SelL.skip)) ?_
                refine WO.yld (by rfl) (wanted_plain (by rfl)) (yld_pick_true (by rfl) (by rfl)) (by rfl) (by decide) (by repeat (first | exact SelL.nil | exact SelL.self | apply SelL.cons | exact Sel.here | apply Sel.there | apply SelL.skip)) ?_
                refine WO.yld (by rfl) (wanted_plain (by rfl)) (yld_move (by rfl)) (by rfl) (by decide) (by repeat (first | exact SelL.nil | exact SelL.self | apply SelL.cons | exact Sel.here | apply Sel.there | apply SelL.skip)) ?_
                refine WO.split (d := 164) (by rfl) (fun hc164 => ?_) (fun hc164 => ?_)
                · skip
                  have hc164 := of_decide_eq_true hc164
                  refine WO.eff (by rfl) (wanted_some (by rfl) (by rfl) (by rfl)) (eff_call (by exact Try.call23) (by repeat (first | exact Evs.nil | apply Evs.cons | rfl)) (by repeat (first | exact SelL.nil | exact SelL.self | apply SelL.cons | exact Sel.here | apply Sel.there | apply SelL.skip)) lives_spec) (by rfl) (by decide) (by intro x; repeat (first | exact SelL.nil | exact SelL.self | apply SelL.cons | exact Sel.here | apply Sel.there | apply SelL.skip)) ?_
                  rintro _ -
                  try dsimp only
                  refine WO.yld (by rfl) (wanted_plain (by rfl)) (yld_pick_true (by rfl) (by rfl)) (by rfl) (by decide) (by repeat (first | exact SelL.nil | exact SelL.self | apply SelL.cons | exact Sel.here | apply Sel.there | apply SelL.skip)) ?_
                  refine WO.yld (by rfl) (wanted_plain (by rfl)) (yld_assign (by rfl)) (by rfl) (by decide) (by repeat (first | exact SelL.nil | exact SelL.self | apply SelL.cons | exact Sel.here | apply Sel.there | apply SelL.skip)) ?_
                  refine WO.done ?_
                  refine WK.ret ?_
                  repeat (first | refine RQ.block ?_ | refine RQ.then_ ?_)
                  refine RQ.body (results1 (by rfl) (by rfl)) (fun w s => ?_)
                  exact ⟨(), trivial, rfl, s.toCs (by repeat (first | exact SelL.nil | exact SelL.self | apply SelL.cons | exact Sel.here | apply Sel.there | apply SelL.skip))⟩
                · skip
                  have hc164 := of_decide_eq_false hc164
                  omega
              · skip
                have hc157 := of_decide_eq_false hc157
                omega
            · skip
              have hc150 := of_decide_eq_false hc150
              omega
          · skip
            have hc141 := of_decide_eq_false hc141
            omega
end Go.Proofs.Ytnknclbiamhnaaa
