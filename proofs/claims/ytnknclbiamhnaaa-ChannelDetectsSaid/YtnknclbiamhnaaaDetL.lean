/- The plain law of detection: the encoding with one byte behind the length changed is refused. -/
import Derived.Test.YtnknclbiamhnaaaChanG
namespace Go.Proofs.Ytnknclbiamhnaaa
set_option linter.unusedVariables false
set_option linter.unusedSimpArgs false
set_option linter.unusedSectionVars false
open Go Go.Sep

/-! ### Varints -/
theorem uintR_uintB : ∀ (d m i n : Nat) (r : List UInt8), m < 128 ^ (d + 1) → i + d ≤ 9 → (i = 0 ∨ 0 < m) → n < 2 ^ (7 * i) → n + m * 2 ^ (7 * i) < 18446744073709551616 → uintR i n (uintB m ++ r) = some (n + m * 2 ^ (7 * i), r)
  | d, m, i, n, r, hm, hd, h0, hn, hv => by
    by_cases h : m < 128
    · rw [uintB_small h]
      have hb : (UInt8.ofNat m).toNat = m := by have := u8of (n := m) (by omega); omega
      show uintR i n (UInt8.ofNat m :: r) = _
      rw [uintR]
      have h1 : ¬ ((i = 9 ∧ 1 < (UInt8.ofNat m).toNat) ∨ (0 < i ∧ (UInt8.ofNat m).toNat = 0)) := by
        rw [hb]
        rintro (⟨rfl, h2⟩ | ⟨h2, h3⟩)
        · have : 2 * 2 ^ (7 * 9) ≤ m * 2 ^ (7 * 9) := Nat.mul_le_mul_right _ h2
          omega
        · omega
      rw [if_neg h1, if_pos (by omega), hb, Nat.mod_eq_of_lt h]
    · have hb : (UInt8.ofNat (m % 128 + 128)).toNat = m % 128 + 128 := by have := u8of (n := m % 128 + 128) (by omega); omega
      cases d with
      | zero => omega
      | succ d =>
        rw [uintB_more h]
        show uintR i n (UInt8.ofNat (m % 128 + 128) :: (uintB (m / 128) ++ r)) = _
        rw [uintR]
        have h1 : ¬ ((i = 9 ∧ 1 < (UInt8.ofNat (m % 128 + 128)).toNat) ∨ (0 < i ∧ (UInt8.ofNat (m % 128 + 128)).toNat = 0)) := by rw [hb]; omega
        rw [if_neg h1, if_neg (by omega), hb]
        have e2 : (m % 128 + 128) % 128 = m % 128 := by omega
        have e3 : (2 : Nat) ^ (7 * (i + 1)) = 128 * 2 ^ (7 * i) := by rw [show 7 * (i + 1) = 7 + 7 * i by omega, Nat.pow_add]
        have e4 : m * 2 ^ (7 * i) = m % 128 * 2 ^ (7 * i) + m / 128 * 2 ^ (7 * (i + 1)) := by
          rw [e3, ← Nat.mul_assoc, ← Nat.add_mul]
          congr 1
          omega
        have hlt : m % 128 * 2 ^ (7 * i) ≤ 127 * 2 ^ (7 * i) := Nat.mul_le_mul_right _ (by omega)
        rw [e2, uintR_uintB d (m / 128) (i + 1) _ r (by rw [Nat.div_lt_iff_lt_mul (by omega), ← Nat.pow_succ]; exact hm) (by omega) (.inr (by omega)) (by rw [e3]; omega) (by omega)]
        rw [e4]
        simp only [Option.some.injEq, Prod.mk.injEq, and_true]
        omega

theorem uintE_uintB {m : Nat} (hm : m < 18446744073709551616) (r : List UInt8) : uintE (uintB m ++ r) 0 = some (m, r) := by
  unfold uintE
  rw [if_pos rfl, uintR_uintB 9 m 0 0 r (by omega) (by omega) (.inl rfl) (by simp) (by simpa using hm)]
  simp

theorem uintR_canon : ∀ (bs : List UInt8) (i n v : Nat) (r : List UInt8), uintR i n bs = some (v, r) → ∃ m, v = n + m * 2 ^ (7 * i) ∧ bs = uintB m ++ r ∧ (0 < i → 0 < m)
  | [], i, n, v, r, h => by rw [uintR] at h; cases h
  | c :: bs, i, n, v, r, h => by
    rw [uintR] at h
    split at h
    · cases h
    · rename_i h1
      have hc := c.toNat_lt
      split at h
      · rename_i h2
        simp only [Option.some.injEq, Prod.mk.injEq] at h
        refine ⟨c.toNat, by rw [← h.1, Nat.mod_eq_of_lt h2], ?_, by omega⟩
        rw [uintB_small h2, ← h.2]
        simp
      · rename_i h2
        obtain ⟨m, hv, hb, hp⟩ := uintR_canon bs (i + 1) _ v r h
        have hm := hp (by omega)
        have e3 : (2 : Nat) ^ (7 * (i + 1)) = 128 * 2 ^ (7 * i) := by rw [show 7 * (i + 1) = 7 + 7 * i by omega, Nat.pow_add]
        refine ⟨c.toNat % 128 + 128 * m, ?_, ?_, by omega⟩
        · rw [hv, e3, Nat.add_mul, Nat.mul_comm 128 m, Nat.mul_assoc]
          omega
        · rw [uintB_more (by omega), show (c.toNat % 128 + 128 * m) / 128 = m from by omega, show (c.toNat % 128 + 128 * m) % 128 + 128 = c.toNat from by omega, hb]
          simp
theorem uintE_canon {bs r : List UInt8} {v : Nat} (h : uintE bs 0 = some (v, r)) : bs = uintB v ++ r := by
  unfold uintE at h
  rw [if_pos rfl] at h
  obtain ⟨m, hv, hb, _⟩ := uintR_canon bs 0 0 v r h
  simp at hv
  rw [hv]; exact hb
theorem rawE_whole {n : Nat} (hn : n < 18446744073709551616) {x : List UInt8} (hx : n ≤ x.length) : rawE (uintB n ++ x) 0 = some (x.take n, x.drop n) := by
  unfold rawE
  rw [uintE_uintB hn]
  dsimp only
  rw [if_pos hx]

/-! ### The hash -/
def MB : BitVec 64 := 11400714819323198485#64
def mixB (s w : BitVec 64) : BitVec 64 := ((s ^^^ w) * MB) ^^^ (((s ^^^ w) * MB) >>> 32)
theorem shift_xor (m : BitVec 64) : (m ^^^ (m >>> 32)) ^^^ ((m ^^^ (m >>> 32)) >>> 32) = m := by
  rw [BitVec.ushiftRight_xor_distrib, ← BitVec.shiftRight_add]
  have h : m >>> (32 + 32) = 0#64 := by
    apply BitVec.eq_of_toNat_eq
    simp
    have := m.isLt
    omega
  rw [h, BitVec.xor_zero, BitVec.xor_assoc, BitVec.xor_self, BitVec.xor_zero]
theorem mixB_inj {a b : BitVec 64} (h : (a * MB) ^^^ ((a * MB) >>> 32) = (b * MB) ^^^ ((b * MB) >>> 32)) : a = b := by
  have h1 : a * MB = b * MB := by rw [← shift_xor (a * MB), h, shift_xor]
  have h2 : ∀ x : BitVec 64, x * MB * 17428512612931826493#64 = x := fun x => by
    rw [BitVec.mul_assoc, show MB * 17428512612931826493#64 = 1#64 from by decide, BitVec.mul_one]
  rw [← h2 a, h1, h2]
theorem xor_left_inj {a b c : BitVec 64} (h : a ^^^ b = a ^^^ c) : b = c := by
  have := congrArg (a ^^^ ·) h
  simpa [← BitVec.xor_assoc] using this
theorem ofInt_wrap (i : Int) : BitVec.ofInt 64 (IntKind.u64.wrap i) = BitVec.ofInt 64 i := by
  apply BitVec.eq_of_toInt_eq
  rw [wrap64n, BitVec.toInt_ofInt, BitVec.toInt_ofInt]
  exact @Int.emod_bmod i (2 ^ 64)
theorem ofInt_toNat (x : BitVec 64) : BitVec.ofInt 64 (x.toNat : Int) = x := by
  rw [BitVec.ofInt_natCast]
  exact BitVec.ofNat_toNat 64 x
theorem bXor_B (i j : Int) : bXor .u64 i j = ((BitVec.ofInt 64 i ^^^ BitVec.ofInt 64 j).toNat : Int) := by
  unfold bXor
  show IntKind.u64.wrap (((BitVec.ofInt 64 i ^^^ BitVec.ofInt 64 j).toNat : Nat) : Int) = _
  rw [u64wrap, Nat.mod_eq_of_lt (BitVec.isLt _)]
theorem mixM_B (s w : Int) : mixM s w = ((mixB (BitVec.ofInt 64 s) (BitVec.ofInt 64 w)).toNat : Int) := by
  have e1 : IntKind.u64.wrap (bXor .u64 s w * 11400714819323198485) = (((BitVec.ofInt 64 s ^^^ BitVec.ofInt 64 w) * MB).toNat : Int) := by
    rw [bXor_B, show (((BitVec.ofInt 64 s ^^^ BitVec.ofInt 64 w).toNat : Int) * 11400714819323198485) = (((BitVec.ofInt 64 s ^^^ BitVec.ofInt 64 w).toNat * 11400714819323198485 : Nat) : Int) from by omega, u64wrap, BitVec.toNat_mul]
    rfl
  have e2 : (2 : Int) ^ (min (32 : Int).toNat IntKind.u64.bits) = 4294967296 := by decide
  unfold mixM
  rw [e1, e2, bXor_B, ofInt_toNat]
  congr 2
  unfold mixB
  congr 1
  rw [Int.fdiv_eq_ediv_of_nonneg _ (by decide)]
  have e3 : (((BitVec.ofInt 64 s ^^^ BitVec.ofInt 64 w) * MB).toNat : Int) / (4294967296 : Int) = ((((BitVec.ofInt 64 s ^^^ BitVec.ofInt 64 w) * MB) >>> 32).toNat : Int) := by
    rw [BitVec.toNat_ushiftRight, Nat.shiftRight_eq_div_pow]
    rfl
  rw [e3, ofInt_toNat]
def U64 (i : Int) : Prop := 0 ≤ i ∧ i < 18446744073709551616
theorem ofInt_inj {i j : Int} (hi : U64 i) (hj : U64 j) (h : BitVec.ofInt 64 i = BitVec.ofInt 64 j) : i = j := by
  have h1 := congrArg BitVec.toNat h
  unfold U64 at hi hj
  simp only [BitVec.toNat_ofInt] at h1
  omega
theorem mixM_w {s w w' : Int} (hw : U64 w) (hw' : U64 w') (h : mixM s w = mixM s w') : w = w' := by
  rw [mixM_B, mixM_B] at h
  have h1 := BitVec.eq_of_toNat_eq (x := mixB (BitVec.ofInt 64 s) (BitVec.ofInt 64 w)) (y := mixB (BitVec.ofInt 64 s) (BitVec.ofInt 64 w')) (by omega)
  exact ofInt_inj hw hw' (xor_left_inj (mixB_inj h1))
theorem mixM_s {s s' w : Int} (hs : U64 s) (hs' : U64 s') (h : mixM s w = mixM s' w) : s = s' := by
  rw [mixM_B, mixM_B] at h
  have h1 := BitVec.eq_of_toNat_eq (x := mixB (BitVec.ofInt 64 s) (BitVec.ofInt 64 w)) (y := mixB (BitVec.ofInt 64 s') (BitVec.ofInt 64 w)) (by omega)
  have h2 := mixB_inj h1
  rw [BitVec.xor_comm, BitVec.xor_comm (BitVec.ofInt 64 s')] at h2
  exact ofInt_inj hs hs' (xor_left_inj h2)
theorem fold_inj : ∀ (l : List Int) (s s' : Int), U64 s → U64 s' → l.foldl mixI s = l.foldl mixI s' → s = s'
  | [], _, _, _, _, h => h
  | i :: l, s, s', hs, hs', h => mixM_s hs hs' (fold_inj l (mixI s i) (mixI s' i) (mixM_R _ _) (mixM_R _ _) h)
theorem wordI_wrap {w : Nat} (h : w < 18446744073709551616) : IntKind.u64.wrap (wordI w) = (w : Int) := by
  unfold wordI
  rw [i64wrapN w h, wrap64n]
  split <;> omega

/-! ### Words -/
theorem leM_inj : ∀ {l l' : List UInt8}, l.length = l'.length → leM l = leM l' → l = l'
  | [], [], _, _ => rfl
  | [], _ :: _, h, _ => by simp at h
  | _ :: _, [], h, _ => by simp at h
  | a :: l, b :: l', h, e => by
    simp only [leM] at e
    have ha := a.toNat_lt
    have hb := b.toNat_lt
    have h1 : a.toNat = b.toNat := by omega
    have h2 : leM l = leM l' := by omega
    rw [UInt8.toNat_inj.1 h1, leM_inj (by simpa using h) h2]
theorem words_set : ∀ (n : Nat) (b : List UInt8) (j : Nat) (c : UInt8), b.length ≤ n → j < b.length → b[j]? ≠ some c →
    ∃ l1 w w' l2, w ≠ w' ∧ w < 18446744073709551616 ∧ w' < 18446744073709551616 ∧ wordsM b = l1 ++ w :: l2 ∧ wordsM (b.set j c) = l1 ++ w' :: l2
  | 0, b, j, c, hn, hj, _ => by omega
  | n + 1, b, j, c, hn, hj, hc => by
    have hb0 := wordsM_drop (bs := b) (i := 0) (by omega)
    have hs0 := wordsM_drop (bs := b.set j c) (i := 0) (by simpa using (by omega : 0 < b.length))
    simp only [List.drop_zero, Nat.zero_add] at hb0 hs0
    have hlt := wordsM_lt b
    have hlt' := wordsM_lt (b.set j c)
    rw [hb0] at hlt
    rw [hs0] at hlt'
    by_cases h8 : j < 8
    · refine ⟨[], leM (b.take 8), leM ((b.set j c).take 8), wordsM (b.drop 8), ?_, hlt _ (by simp), hlt' _ (by simp), by rw [hb0]; rfl, ?_⟩
      · intro e
        have := leM_inj (by simp) e
        have h1 := congrArg (·[j]?) this
        simp only [List.getElem?_take, if_pos h8, List.getElem?_set_self hj] at h1
        exact hc h1
      · rw [hs0, List.drop_set_of_lt h8]
        rfl
    · have hd : (b.set j c).drop 8 = (b.drop 8).set (j - 8) c := by rw [List.drop_set, if_neg h8]
      obtain ⟨l1, w, w', l2, h1, h2, h3, h4, h5⟩ := words_set n (b.drop 8) (j - 8) c (by simp; omega) (by simp; omega) (by rw [List.getElem?_drop, show 8 + (j - 8) = j from by omega]; exact hc)
      refine ⟨leM (b.take 8) :: l1, w, w', l2, h1, h2, h3, by rw [hb0, h4]; rfl, ?_⟩
      rw [hs0, hd, h5, List.take_set_of_le (by omega)]
      rfl
theorem hash_set {label b : List UInt8} {j : Nat} {c : UInt8} (hj : j < b.length) (hc : b[j]? ≠ some c) : hashN label (b.set j c) ≠ hashN label b := by
  intro h
  have h0 : hashB label (b.set j c) = hashB label b := by rw [hashN_cast, hashN_cast, h]
  obtain ⟨l1, w, w', l2, h1, h2, h3, h4, h5⟩ := words_set b.length b j c (Nat.le_refl _) hj hc
  unfold hashB at h0
  rw [h4, h5, List.length_set] at h0
  unfold hashM at h0
  have h6 := mixM_s (by
    rw [List.foldl_append]
    exact mixM_R _ _) (by
    rw [List.foldl_append]
    exact mixM_R _ _) h0
  simp only [List.map_append, List.map_cons, List.foldl_append, List.foldl_cons, List.foldl_nil, List.length_append, List.length_cons, List.length_map] at h6
  have h7 := mixM_s (w := IntKind.u64.wrap (b.length : Int)) (by
    rw [← List.foldl_cons (f := mixI)]
    rcases l2.map wordI with _ | ⟨a, t⟩
    · exact mixM_R _ _
    · rcases List.eq_nil_or_concat t with rfl | ⟨t', z, rfl⟩ <;> simp [List.foldl_append] <;> exact mixM_R _ _) (by
    rw [← List.foldl_cons (f := mixI)]
    rcases l2.map wordI with _ | ⟨a, t⟩
    · exact mixM_R _ _
    · rcases List.eq_nil_or_concat t with rfl | ⟨t', z, rfl⟩ <;> simp [List.foldl_append] <;> exact mixM_R _ _) h6
  have h8 := fold_inj _ _ _ (mixM_R _ _) (mixM_R _ _) h7
  have h9 := mixM_w (by rw [wordI_wrap h3]; exact ⟨by omega, by omega⟩) (by rw [wordI_wrap h2]; exact ⟨by omega, by omega⟩) h8
  rw [wordI_wrap h2, wordI_wrap h3] at h9
  exact h1 (by omega)

/-! ### Detection -/
theorem uintB_pos (n : Nat) : 0 < (uintB n).length := by
  by_cases h : n < 128
  · rw [uintB_small h]; simp
  · rw [uintB_more h]; simp
theorem decM_err (bs : List UInt8) : (decM bs).2 = 0 ∨ (decM bs).2 = 19 ∨ (decM bs).2 = 2 := by
  unfold decM
  split
  · split
    · split <;> simp
    · simp
  · simp
theorem tw1 (c : List UInt8) (hc : c.length < 18446744073709551616) (h : Nat) : rawE (uintB c.length ++ c ++ uintB h) 0 = some (c, uintB h) := by
    rw [List.append_assoc, rawE_whole hc (by simp), List.take_left, List.drop_left]
theorem tw2 (h : Nat) (hh : h < 18446744073709551616) : uintE (uintB h) 0 = some (h, []) := by
    have := uintE_uintB hh []
    rwa [List.append_nil] at this
theorem tw3 (bs c r : List UInt8) (h : Nat) (h1 : rawE bs 0 = some (c, r)) (h2 : uintE r 0 = some (h, [])) : topM bs = some (c, h) := by
  unfold topM
  simp only [h1, h2]
theorem top_whole (c : List UInt8) (hc : c.length < 18446744073709551616) : topM (wholeM c) = some (c, hashN parcel c) :=
  tw3 (wholeM c) c (uintB (hashN parcel c)) _ (tw1 c hc _) (tw2 _ (hashN_lt parcel c))
theorem detect {c : List UInt8} (hc : c.length < 18446744073709551616) {k : Nat} (h1 : (uintB c.length).length ≤ k) (h2 : k < (wholeM c).length) {y : UInt8} (hy : (wholeM c)[k]? ≠ some y) : (decM ((wholeM c).set k y)).2 ≠ 0 := by
  intro h0
  have e1 : wholeM c = uintB c.length ++ (c ++ uintB (hashN parcel c)) := by unfold wholeM; rw [List.append_assoc]
  rw [e1] at h2 hy h0
  rw [List.set_append_right _ _ h1] at h0
  rw [List.getElem?_append_right h1] at hy
  simp only [List.length_append] at h2
  generalize hj : k - (uintB c.length).length = j at h0 hy
  have hj2 : j < c.length + (uintB (hashN parcel c)).length := by omega
  rcases ht : topM (uintB c.length ++ (c ++ uintB (hashN parcel c)).set j y) with _ | ⟨c', m⟩
  · rw [decM_top ht] at h0; cases h0
  · have hm : (m : Int) = hashN parcel c' := by
      by_cases he : (m : Int) = hashN parcel c'
      · exact he
      · rw [decM_sum ht he] at h0; cases h0
    unfold topM at ht
    rw [rawE_whole hc (by simp)] at ht
    dsimp only at ht
    by_cases hjc : j < c.length
    · rw [List.set_append_left _ _ hjc] at ht
      have ht1 : (c.set j y ++ uintB (hashN parcel c)).take c.length = c.set j y := List.take_left' (by simp)
      have ht2 : (c.set j y ++ uintB (hashN parcel c)).drop c.length = uintB (hashN parcel c) := List.drop_left' (by simp)
      have hu := uintE_uintB (hashN_lt parcel c) []
      rw [List.append_nil] at hu
      rw [ht1, ht2, hu] at ht
      simp only [Option.some.injEq, Prod.mk.injEq] at ht
      obtain ⟨rfl, rfl⟩ := ht
      rw [List.getElem?_append_left hjc] at hy
      exact hash_set (label := parcel) hjc hy (by omega)
    · rw [List.set_append_right _ _ (by omega), List.take_left, List.drop_left] at ht
      rw [List.getElem?_append_right (by omega)] at hy
      rcases hu : uintE ((uintB (hashN parcel c)).set (j - c.length) y) 0 with _ | ⟨m', r⟩
      · rw [hu] at ht; cases ht
      · rw [hu] at ht
        cases r with
        | cons a t => cases ht
        | nil =>
          simp only [Option.some.injEq, Prod.mk.injEq] at ht
          obtain ⟨rfl, rfl⟩ := ht
          have hcan := uintE_canon hu
          rw [List.append_nil, show m' = hashN parcel c from by omega] at hcan
          have h3 := congrArg (·[j - c.length]?) hcan
          simp only [List.getElem?_set_self (show j - c.length < (uintB (hashN parcel c)).length from by omega)] at h3
          exact hy h3.symm
end Go.Proofs.Ytnknclbiamhnaaa
