import Derived.Test.YtnknclbiamhnaaaChanC
import Derived.Test.YtnknclbiamhnaaaSepS
namespace Go.Proofs.Ytnknclbiamhnaaa
set_option linter.unusedVariables false
set_option linter.unusedSimpArgs false
set_option linter.unusedSectionVars false
open Go Go.Sep
attribute [local irreducible] row sl mapO held exL allR byt mapI slr
/-! ### The hash of package hash -/
def leM : List UInt8 → Nat
  | [] => 0
  | b :: bs => b.toNat + 256 * leM bs
theorem leM_snoc (b : UInt8) : ∀ l, leM (l ++ [b]) = leM l + b.toNat * 2 ^ (8 * l.length)
  | [] => by simp [leM]
  | c :: l => by
    simp only [List.cons_append, leM, leM_snoc b l, List.length_cons]
    rw [show 8 * (l.length + 1) = 8 + 8 * l.length from by omega, Nat.pow_add, Nat.mul_add]
    rw [show b.toNat * (2 ^ 8 * 2 ^ (8 * l.length)) = 256 * (b.toNat * 2 ^ (8 * l.length)) from by rw [Nat.mul_left_comm]]
    omega
theorem leM_lt : ∀ l, leM l < 2 ^ (8 * l.length)
  | [] => by simp [leM]
  | c :: l => by
    have h := leM_lt l
    have h2 := c.toNat_lt
    simp only [leM, List.length_cons]
    rw [show 8 * (l.length + 1) = 8 + 8 * l.length from by omega, Nat.pow_add]
    omega
def wordsM (bs : List UInt8) : List Nat := if h : bs = [] then [] else leM (bs.take 8) :: wordsM (bs.drop 8)
termination_by bs.length
decreasing_by
  have : 0 < bs.length := List.length_pos_iff.2 h
  simp; omega
theorem wordsM_nil {bs : List UInt8} {i : Nat} (h : bs.length ≤ i) : wordsM (bs.drop i) = [] := by
  rw [wordsM, dif_pos (List.drop_eq_nil_of_le h)]
theorem wordsM_drop {bs : List UInt8} {i : Nat} (h : i < bs.length) : wordsM (bs.drop i) = leM ((bs.drop i).take 8) :: wordsM (bs.drop (i + 8)) := by
  rw [wordsM, dif_neg (by simp; omega), List.drop_drop]
theorem wordsM_len (bs : List UInt8) : (wordsM bs).length ≤ bs.length := by
  rw [wordsM]
  split
  · simp
  · rename_i h
    have h0 : 0 < bs.length := List.length_pos_iff.2 h
    have := wordsM_len (bs.drop 8)
    simp only [List.length_cons, List.length_drop] at this ⊢
    omega
termination_by bs.length
decreasing_by
  simp; omega
theorem wordsM_lt (bs : List UInt8) : ∀ w ∈ wordsM bs, w < 18446744073709551616 := by
  rw [wordsM]
  split
  · simp
  · rename_i h
    have h0 : 0 < bs.length := List.length_pos_iff.2 h
    intro w hw
    rcases List.mem_cons.1 hw with rfl | hw
    · have h1 := leM_lt (bs.take 8)
      have h2 : (2 : Nat) ^ (8 * (bs.take 8).length) ≤ 2 ^ 64 := Nat.pow_le_pow_right (by omega) (by simp; omega)
      omega
    · exact wordsM_lt (bs.drop 8) w hw
termination_by bs.length
decreasing_by
  simp; omega
/-- The state behind a word. -/
def mixM (s w : Int) : Int := bXor .u64 (IntKind.u64.wrap (bXor .u64 s w * 11400714819323198485)) ((IntKind.u64.wrap (bXor .u64 s w * 11400714819323198485)).fdiv (2 ^ (min (32 : Int).toNat IntKind.u64.bits)))
def mixW (s : Int) (w : Nat) : Int := mixM s w
def mixI (s i : Int) : Int := mixM s (IntKind.u64.wrap i)
def hashM (label : List UInt8) (l : List Int) : Int :=
  mixM (l.foldl mixI (mixM (mixM ((wordsM label).foldl mixW 0) label.length) l.length)) 0
def wordI (w : Nat) : Int := IntKind.i64.wrap w
def hashB (label b : List UInt8) : Int := hashM label ((wordsM b).map wordI ++ [(b.length : Int)])
theorem shlW (b : UInt8) (n : Nat) (h : n < 8) (j : Int) (hj : j = ((8 * n : Nat) : Int)) : IntKind.u64.wrap ((b.toNat : Int) * 2 ^ (min j.toNat IntKind.u64.bits)) = ((b.toNat * 2 ^ (8 * n) : Nat) : Int) := by
  have h2 := b.toNat_lt
  rw [hj, Int.toNat_natCast, show min (8 * n) IntKind.u64.bits = 8 * n from by simp [IntKind.bits]; omega]
  rw [show ((b.toNat : Int) * 2 ^ (8 * n)) = ((b.toNat * 2 ^ (8 * n) : Nat) : Int) from by norm_cast, u64wrap]
  congr 1
  refine Nat.mod_eq_of_lt ?_
  have h3 : (2 : Nat) ^ (8 * n) ≤ 2 ^ 56 := Nat.pow_le_pow_right (by omega) (by omega)
  calc b.toNat * 2 ^ (8 * n) ≤ b.toNat * 2 ^ 56 := Nat.mul_le_mul_left _ h3
    _ < _ := by omega
theorem orW (b : UInt8) (l : List UInt8) (h : l.length < 8) : bOr .u64 (leM l : Int) ((b.toNat * 2 ^ (8 * l.length) : Nat) : Int) = (leM (l ++ [b]) : Int) := by
  have h1 := leM_lt (l ++ [b])
  have h2 : (2 : Nat) ^ (8 * (l ++ [b]).length) ≤ 2 ^ 64 := Nat.pow_le_pow_right (by omega) (by simp; omega)
  rw [leM_snoc] at h1 ⊢
  exact bOr64_add _ _ _ (leM_lt l) (by omega)
theorem take_more {bs : List UInt8} {i k : Nat} {c : UInt8} (hi : i ≤ k) (hc : bs[k]? = some c) : (bs.drop i).take (k + 1 - i) = (bs.drop i).take (k - i) ++ [c] := by
  rw [show k + 1 - i = (k - i) + 1 from by omega, List.take_add_one]
  congr 1
  rw [List.getElem?_drop, show i + (k - i) = k from by omega, hc]
  rfl
set_option maxRecDepth 20000 in
set_option maxHeartbeats 1000000 in
theorem wordsB_iter (q : Nat) (p : Bool) (ad : Option Addr) (len cap : Nat) (bs : List UInt8) (hl : len ≤ 140737488355328) :
    Iter Try.prog 72 [.pointer (some ⟨q, 0, none⟩)] [row true q 31 [.slice ad len cap], sl p 5 1 ad len cap (bs.map bv)] (α := Nat) (fun x => [.int .u64 (x : Int)]) (fun xs => xs = wordsM bs) := by
  refine Iter.of_body (v := .tuple #[]) Try.func72 rfl Try.ntmps72 (by simp) (fun β I Ix J Jx l g hY b F hI Rr hdone hstop => ?_)
  dsimp only [numb, List.cons_append, List.nil_append]
  refine WK.know (fun w s => Sat.slLen (s.sel1 (A := sl p 5 1 ad len cap (bs.map bv)) (by repeat (first | exact .here | apply Sel.there)))) (fun hkn => ?_)
  obtain ⟨n1, -⟩ := hkn
  simp only [Nat.mul_one, List.length_map] at n1
  refine WK.seq ?_
  refine WK.region ?_
  refine WL.yld (wanted_plain (by rfl)) (yld_assign (by rfl)) (by rfl) (by decide) ?_
  refine WL.done ?_
  refine WK.block ?_
  refine WK.loop (ι := Nat × List Nat × β) (fun x => x.1 ≤ len + 8 ∧ wordsM bs = x.2.1 ++ wordsM (bs.drop x.1) ∧ I x.2.1 x.2.2) (fun x => [(0, .func (.yield l) #[] #[]), (1, .pointer (some ⟨q, 0, none⟩)), (3, .int .i64 (x.1 : Int))]) (fun x => J x.2.2 :: row true q 31 [.slice ad len cap] :: sl p 5 1 ad len cap (bs.map bv) :: F) (fun x => len + 8 - x.1) ((0, [], b)) (⟨Nat.zero_le _, rfl, hI⟩) (by repeat (first | exact KK.nil | refine KK.cons (by first | rfl | (simp; done)) ?_)) (by repeat (first | exact SelL.nil | exact SelL.self | apply SelL.cons | exact Sel.here | apply Sel.there | apply SelL.skip)) ?_
  rintro ⟨i, pre, b⟩ ⟨hi, hw, hIp⟩ N hN
  dsimp only at hi hw hIp ⊢
  refine WK.seq ?_
  refine WK.seq ?_
  refine WK.region ?_
  refine WL.yld (wanted_plain (by rfl)) (yld_move (by rfl)) (by rfl) (by decide) ?_
  refine WL.yld (wanted_plain (by rfl)) (yld_load (by rfl) (by exact Try.isAgg31) (by repeat (first | exact .here | apply Sel.there)) (by rfl)) (by rfl) (by decide) ?_
  refine WL.yld (wanted_plain (by rfl)) (yld_len (by rfl) (by exact Try.runUnderlying31)) (by rfl) (by decide) ?_
  refine WL.yld (wanted_plain (by rfl)) (yld_lss (by rfl) (by rfl)) (by rfl) (by decide) ?_
  refine WL.done ?_
  refine WK.cond (by rfl) (fun hc9 => ?_) (fun hc9 => ?_)
  · skip
    have hc9 := of_decide_eq_true hc9
    have hilt : i < bs.length := by omega
    refine WK.skip ?_
    refine WK.seq ?_
    refine WK.block ?_
    refine WK.seq ?_
    refine WK.region ?_
    refine WL.yld (wanted_plain (by rfl)) (yld_assign (by rfl)) (by rfl) (by decide) ?_
    refine WL.done ?_
    refine WK.seq ?_
    refine WK.seq ?_
    refine WK.region ?_
    refine WL.yld (wanted_plain (by rfl)) (yld_move (by rfl)) (by rfl) (by decide) ?_
    refine WL.yld (wanted_plain (by rfl)) (yld_assign (by rfl)) (by rfl) (by decide) ?_
    refine WL.done ?_
    refine WK.block ?_
    refine WK.loop (ι := Nat × Nat) (fun x => i ≤ x.1 ∧ x.1 ≤ i + 8 ∧ x.1 ≤ len ∧ x.2 = leM ((bs.drop i).take (x.1 - i))) (fun x => [(0, .func (.yield l) #[] #[]), (1, .pointer (some ⟨q, 0, none⟩)), (3, .int .i64 (i : Int)), (5, .int .i64 (x.1 : Int)), (4, .int .u64 (x.2 : Int))]) (fun x => J b :: row true q 31 [.slice ad len cap] :: sl p 5 1 ad len cap (bs.map bv) :: F) (fun x => len + 8 - x.1) ((i, 0)) (⟨Nat.le_refl _, by dsimp only; omega, by dsimp only; omega, by dsimp only; simp [leM]⟩) (by repeat (first | exact KK.nil | refine KK.cons (by first | rfl | (simp; done)) ?_)) (by repeat (first | exact SelL.nil | exact SelL.self | apply SelL.cons | exact Sel.here | apply Sel.there | apply SelL.skip)) ?_
    rintro ⟨k, v⟩ ⟨h1, h2, h3, hv⟩ N2 hN2
    dsimp only at h1 h2 h3 hv ⊢
    refine WK.seq ?_
    refine WK.seq ?_
    refine WK.region ?_
    refine WL.yld (wanted_plain (by rfl)) (yld_move (by rfl)) (by rfl) (by decide) ?_
    refine WL.yld (wanted_plain (by rfl)) (yld_move (by rfl)) (by rfl) (by decide) ?_
    refine WL.yld (wanted_plain (by rfl)) (yld_add (by rfl) (by rfl) (by first | exact w64 (by omega) (by omega) | rfl)) (by rfl) (by decide) ?_
    refine WL.yld (wanted_plain (by rfl)) (yld_load (by rfl) (by exact Try.isAgg31) (by repeat (first | exact .here | apply Sel.there)) (by rfl)) (by rfl) (by decide) ?_
    refine WL.yld (wanted_plain (by rfl)) (yld_len (by rfl) (by exact Try.runUnderlying31)) (by rfl) (by decide) ?_
    refine WL.yld (wanted_plain (by rfl)) (yld_min (by rfl) (by rfl)) (by rfl) (by decide) ?_
    refine WL.yld (wanted_plain (by rfl)) (yld_lss (by rfl) (by rfl)) (by rfl) (by decide) ?_
    refine WL.done ?_
    refine WK.cond (by rfl) (fun hc19 => ?_) (fun hc19 => ?_)
    · skip
      have hc19 := of_decide_eq_true hc19
      obtain ⟨c, hc⟩ : ∃ c, bs[k]? = some c := ⟨_, List.getElem?_eq_getElem (by omega)⟩
      have hc8 := c.toNat_lt
      have hlen : ((bs.drop i).take (k - i)).length = k - i := by rw [List.length_take, List.length_drop]; omega
      subst hv
      refine WK.skip ?_
      refine WK.seq ?_
      refine WK.block ?_
      refine WK.region ?_
      refine WL.yld (wanted_plain (by rfl)) (yld_move (by rfl)) (by rfl) (by decide) ?_
      refine WL.yld (wanted_plain (by rfl)) (yld_load (by rfl) (by exact Try.isAgg31) (by repeat (first | exact .here | apply Sel.there)) (by rfl)) (by rfl) (by decide) ?_
      refine WL.yld (wanted_plain (by rfl)) (yld_move (by rfl)) (by rfl) (by decide) ?_
      refine WL.yld (wanted_plain (by rfl)) (yld_indexAddrS (by rfl) (by rfl) (by exact Try.runUnderlying31) (by exact Try.sizeOf5) (by repeat (first | exact .here | apply Sel.there)) (k) (by first | rfl | omega) (by omega) (by omega) (by exact Nat.mul_one _)) (by rfl) (by decide) ?_
      refine WL.yld (wanted_plain (by rfl)) (yld_loadS (by rfl) (by exact Try.isAgg5) (by repeat (first | exact .here | apply Sel.there)) (by rw [List.getElem?_map, hc]; rfl)) (by rfl) (by decide) ?_
      refine WL.yld (wanted_plain (by rfl)) (yld_convInt (by rfl) (by exact Try.runUnderlying5) (by exact Try.runUnderlying75) (show IntKind.u64.wrap ((c.toNat : Nat) : Int) = ((c.toNat : Nat) : Int) from by rw [u64wrap]; congr 1; omega)) (by rfl) (by decide) ?_
      refine WL.yld (wanted_plain (by rfl)) (yld_move (by rfl)) (by rfl) (by decide) ?_
      refine WL.yld (wanted_plain (by rfl)) (yld_move (by rfl)) (by rfl) (by decide) ?_
      refine WL.yld (wanted_plain (by rfl)) (yld_sub (by rfl) (by rfl) (by first | exact w64 (by omega) (by omega) | rfl)) (by rfl) (by decide) ?_
      refine WL.yld (wanted_plain (by rfl)) (yld_mul (by rfl) (by rfl) (by first | exact w64 (by omega) (by omega) | rfl)) (by rfl) (by decide) ?_
      refine WL.yld (wanted_plain (by rfl)) (yld_shl (by rfl) (by rfl) (by omega) (by exact shlW c (k - i) (by omega) _ (by omega))) (by rfl) (by decide) ?_
      refine WL.yld (wanted_plain (by rfl)) (yld_or (by rfl) (by rfl) (show bOr .u64 _ _ = ((leM ((bs.drop i).take (k + 1 - i)) : Nat) : Int) from by have := orW c ((bs.drop i).take (k - i)) (by omega); rw [hlen] at this; rw [take_more h1 hc]; exact this)) (by rfl) (by decide) ?_
      refine WL.yld (wanted_plain (by rfl)) (yld_assign (by rfl)) (by rfl) (by decide) ?_
      refine WL.done ?_
      refine WK.endBlock ?_
      refine WK.region ?_
      refine WL.yld (wanted_plain (by rfl)) (yld_move (by rfl)) (by rfl) (by decide) ?_
      refine WL.yld (wanted_plain (by rfl)) (yld_add (by rfl) (by rfl) (by first | exact w64 (by omega) (by omega) | rfl)) (by rfl) (by decide) ?_
      refine WL.yld (wanted_plain (by rfl)) (yld_assign (by rfl)) (by rfl) (by decide) ?_
      refine WL.done ?_
      exact WK.next hN2 (k + 1, leM ((bs.drop i).take (k + 1 - i))) ⟨by dsimp only; omega, by dsimp only; omega, by dsimp only; omega, rfl⟩ (by dsimp only; omega) (by repeat (first | exact KK.nil | refine KK.cons (by first | rfl | (simp; done)) ?_)) (by repeat (first | exact SelL.nil | exact SelL.self | apply SelL.cons | exact Sel.here | apply Sel.there | apply SelL.skip))
    · skip
      have hc19 := of_decide_eq_false hc19
      have hv8 : v = leM ((bs.drop i).take 8) := by
        rw [hv]
        by_cases h8 : k = i + 8
        · rw [h8, show i + 8 - i = 8 from by omega]
        · rw [List.take_of_length_le (by rw [List.length_drop]; omega), List.take_of_length_le (by rw [List.length_drop]; omega)]
      have hwd := wordsM_drop (bs := bs) (i := i) (by omega)
      rw [← hv8] at hwd
      refine WK.exit ?_
      repeat (first | refine XQ.then_ ?_ | refine XQ.block (by rfl) ?_)
      refine XQ.here ?_
      refine WK.seq ?_
      refine WK.region ?_
      refine WL.yld (wanted_plain (by rfl)) (yld_move (by rfl)) (by rfl) (by decide) ?_
      refine WL.yld (wanted_plain (by rfl)) (yld_move (by rfl)) (by rfl) (by decide) ?_
      refine WL.effR (wanted_plain (by rfl)) (effR_yield hY (by rfl) (by repeat (first | exact Evs.nil | apply Evs.cons | rfl)) pre v b (by rfl) ⟨_, by rw [hw, hwd]⟩ hIp (by repeat (first | exact .here | apply Sel.there))) (by rfl) (by decide) ?_
      rintro ⟨b36, t36⟩ hz36
      try dsimp only
      refine WL.yld (wanted_plain (by rfl)) (yld_not (by rfl)) (by rfl) (by decide) ?_
      refine WL.done ?_
      refine WK.cond (by rfl) (fun hc37 => ?_) (fun hc37 => ?_)
      · skip
        obtain rfl : t36 = false := by simpa using hc37
        dsimp only [cond] at hz36 ⊢
        refine WK.ret ?_
        repeat (first | refine RQ.block ?_ | refine RQ.then_ ?_)
        refine RQ.body (results0 (by rfl)) (fun w s => ?_)
        exact hstop _ b36 hz36 w (s.toCs (by repeat (first | exact SelL.nil | exact SelL.self | apply SelL.cons | exact Sel.here | apply Sel.there | apply SelL.skip)))
      · skip
        obtain rfl : t36 = true := by simpa using hc37
        dsimp only [cond] at hz36 ⊢
        refine WK.skip ?_
        refine WK.endBlock ?_
        refine WK.region ?_
        refine WL.yld (wanted_plain (by rfl)) (yld_move (by rfl)) (by rfl) (by decide) ?_
        refine WL.yld (wanted_plain (by rfl)) (yld_add (by rfl) (by rfl) (by first | exact w64 (by omega) (by omega) | rfl)) (by rfl) (by decide) ?_
        refine WL.yld (wanted_plain (by rfl)) (yld_assign (by rfl)) (by rfl) (by decide) ?_
        refine WL.done ?_
        exact WK.next hN (i + 8, pre ++ [v], b36) ⟨by dsimp only; omega, by dsimp only; rw [hw, hwd, List.append_assoc]; rfl, hz36⟩ (by dsimp only; omega) (by repeat (first | exact KK.nil | refine KK.cons (by first | rfl | (simp; done)) ?_)) (by repeat (first | exact SelL.nil | exact SelL.self | apply SelL.cons | exact Sel.here | apply Sel.there | apply SelL.skip))
  · skip
    have hc9 := of_decide_eq_false hc9
    refine WK.exit ?_
    repeat (first | refine XQ.then_ ?_ | refine XQ.block (by rfl) ?_)
    refine XQ.here ?_
    refine WK.fall (results0 (by rfl)) (fun w s => ?_)
    exact hdone _ b rfl (by rw [hw, wordsM_nil (by omega), List.append_nil]; exact hIp) w (s.toCs (by repeat (first | exact SelL.nil | exact SelL.self | apply SelL.cons | exact Sel.here | apply Sel.there | apply SelL.skip)))
set_option maxRecDepth 20000 in
set_option maxHeartbeats 1000000 in
theorem wordsS_iter (q : Nat) (bs : List UInt8) (hl : bs.length ≤ 140737488355328) :
    Iter Try.prog 77 [.pointer (some ⟨q, 0, none⟩)] [row true q 9 [.string ⟨bs.toArray⟩]] (α := Nat) (fun x => [.int .u64 (x : Int)]) (fun xs => xs = wordsM bs) := by
  refine Iter.of_body (v := .tuple #[]) Try.func77 rfl Try.ntmps77 (by simp) (fun β I Ix J Jx l g hY b F hI Rr hdone hstop => ?_)
  dsimp only [numb, List.cons_append, List.nil_append]
  have hsz : (⟨bs.toArray⟩ : ByteArray).size = bs.length := by simp [ByteArray.size]
  refine WK.seq ?_
  refine WK.region ?_
  refine WL.yld (wanted_plain (by rfl)) (yld_assign (by rfl)) (by rfl) (by decide) ?_
  refine WL.done ?_
  refine WK.block ?_
  refine WK.loop (ι := Nat × List Nat × β) (fun x => x.1 ≤ bs.length + 8 ∧ wordsM bs = x.2.1 ++ wordsM (bs.drop x.1) ∧ I x.2.1 x.2.2) (fun x => [(0, .func (.yield l) #[] #[]), (1, .pointer (some ⟨q, 0, none⟩)), (3, .int .i64 (x.1 : Int))]) (fun x => J x.2.2 :: row true q 9 [.string ⟨bs.toArray⟩] :: F) (fun x => bs.length + 8 - x.1) ((0, [], b)) (⟨Nat.zero_le _, rfl, hI⟩) (by repeat (first | exact KK.nil | refine KK.cons (by first | rfl | (simp; done)) ?_)) (by repeat (first | exact SelL.nil | exact SelL.self | apply SelL.cons | exact Sel.here | apply Sel.there | apply SelL.skip)) ?_
  rintro ⟨i, pre, b⟩ ⟨hi, hw, hIp⟩ N hN
  dsimp only at hi hw hIp ⊢
  refine WK.seq ?_
  refine WK.seq ?_
  refine WK.region ?_
  refine WL.yld (wanted_plain (by rfl)) (yld_move (by rfl)) (by rfl) (by decide) ?_
  refine WL.yld (wanted_plain (by rfl)) (yld_load (by rfl) (by exact Try.isAgg9) (by repeat (first | exact .here | apply Sel.there)) (by rfl)) (by rfl) (by decide) ?_
  refine WL.yld (wanted_plain (by rfl)) (yld_lenS (by rfl) (by exact Try.runUnderlying9)) (by rfl) (by decide) ?_
  refine WL.yld (wanted_plain (by rfl)) (yld_lss (by rfl) (by rfl)) (by rfl) (by decide) ?_
  refine WL.done ?_
  refine WK.cond (by rfl) (fun hc9 => ?_) (fun hc9 => ?_)
  · skip
    have hc9 := of_decide_eq_true hc9
    have hilt : i < bs.length := by omega
    refine WK.skip ?_
    refine WK.seq ?_
    refine WK.block ?_
    refine WK.seq ?_
    refine WK.region ?_
    refine WL.yld (wanted_plain (by rfl)) (yld_assign (by rfl)) (by rfl) (by decide) ?_
    refine WL.done ?_
    refine WK.seq ?_
    refine WK.seq ?_
    refine WK.region ?_
    refine WL.yld (wanted_plain (by rfl)) (yld_move (by rfl)) (by rfl) (by decide) ?_
    refine WL.yld (wanted_plain (by rfl)) (yld_assign (by rfl)) (by rfl) (by decide) ?_
    refine WL.done ?_
    refine WK.block ?_
    refine WK.loop (ι := Nat × Nat) (fun x => i ≤ x.1 ∧ x.1 ≤ i + 8 ∧ x.1 ≤ bs.length ∧ x.2 = leM ((bs.drop i).take (x.1 - i))) (fun x => [(0, .func (.yield l) #[] #[]), (1, .pointer (some ⟨q, 0, none⟩)), (3, .int .i64 (i : Int)), (5, .int .i64 (x.1 : Int)), (4, .int .u64 (x.2 : Int))]) (fun x => J b :: row true q 9 [.string ⟨bs.toArray⟩] :: F) (fun x => bs.length + 8 - x.1) ((i, 0)) (⟨Nat.le_refl _, by dsimp only; omega, by dsimp only; omega, by dsimp only; simp [leM]⟩) (by repeat (first | exact KK.nil | refine KK.cons (by first | rfl | (simp; done)) ?_)) (by repeat (first | exact SelL.nil | exact SelL.self | apply SelL.cons | exact Sel.here | apply Sel.there | apply SelL.skip)) ?_
    rintro ⟨k, v⟩ ⟨h1, h2, h3, hv⟩ N2 hN2
    dsimp only at h1 h2 h3 hv ⊢
    refine WK.seq ?_
    refine WK.seq ?_
    refine WK.region ?_
    refine WL.yld (wanted_plain (by rfl)) (yld_move (by rfl)) (by rfl) (by decide) ?_
    refine WL.yld (wanted_plain (by rfl)) (yld_move (by rfl)) (by rfl) (by decide) ?_
    refine WL.yld (wanted_plain (by rfl)) (yld_add (by rfl) (by rfl) (by first | exact w64 (by omega) (by omega) | rfl)) (by rfl) (by decide) ?_
    refine WL.yld (wanted_plain (by rfl)) (yld_load (by rfl) (by exact Try.isAgg9) (by repeat (first | exact .here | apply Sel.there)) (by rfl)) (by rfl) (by decide) ?_
    refine WL.yld (wanted_plain (by rfl)) (yld_lenS (by rfl) (by exact Try.runUnderlying9)) (by rfl) (by decide) ?_
    refine WL.yld (wanted_plain (by rfl)) (yld_min (by rfl) (by rfl)) (by rfl) (by decide) ?_
    refine WL.yld (wanted_plain (by rfl)) (yld_lss (by rfl) (by rfl)) (by rfl) (by decide) ?_
    refine WL.done ?_
    refine WK.cond (by rfl) (fun hc19 => ?_) (fun hc19 => ?_)
    · skip
      have hc19 := of_decide_eq_true hc19
      obtain ⟨c, hc⟩ : ∃ c, bs[k]? = some c := ⟨_, List.getElem?_eq_getElem (by omega)⟩
      have hc8 := c.toNat_lt
      have hlen : ((bs.drop i).take (k - i)).length = k - i := by rw [List.length_take, List.length_drop]; omega
      subst hv
      refine WK.skip ?_
      refine WK.seq ?_
      refine WK.block ?_
      refine WK.region ?_
      refine WL.yld (wanted_plain (by rfl)) (yld_move (by rfl)) (by rfl) (by decide) ?_
      refine WL.yld (wanted_plain (by rfl)) (yld_load (by rfl) (by exact Try.isAgg9) (by repeat (first | exact .here | apply Sel.there)) (by rfl)) (by rfl) (by decide) ?_
      refine WL.yld (wanted_plain (by rfl)) (yld_move (by rfl)) (by rfl) (by decide) ?_
      refine WL.yld (wanted_plain (by rfl)) (yld_indexStr (by rfl) (by rfl) (by exact Try.runUnderlying9) (k) (by first | rfl | omega) (by exact hc)) (by rfl) (by decide) ?_
      refine WL.yld (wanted_plain (by rfl)) (yld_convInt (by rfl) (by exact Try.runUnderlying5) (by exact Try.runUnderlying75) (show IntKind.u64.wrap ((c.toNat : Nat) : Int) = ((c.toNat : Nat) : Int) from by rw [u64wrap]; congr 1; omega)) (by rfl) (by decide) ?_
      refine WL.yld (wanted_plain (by rfl)) (yld_move (by rfl)) (by rfl) (by decide) ?_
      refine WL.yld (wanted_plain (by rfl)) (yld_move (by rfl)) (by rfl) (by decide) ?_
      refine WL.yld (wanted_plain (by rfl)) (yld_sub (by rfl) (by rfl) (by first | exact w64 (by omega) (by omega) | rfl)) (by rfl) (by decide) ?_
      refine WL.yld (wanted_plain (by rfl)) (yld_mul (by rfl) (by rfl) (by first | exact w64 (by omega) (by omega) | rfl)) (by rfl) (by decide) ?_
      refine WL.yld (wanted_plain (by rfl)) (yld_shl (by rfl) (by rfl) (by omega) (by exact shlW c (k - i) (by omega) _ (by omega))) (by rfl) (by decide) ?_
      refine WL.yld (wanted_plain (by rfl)) (yld_or (by rfl) (by rfl) (show bOr .u64 _ _ = ((leM ((bs.drop i).take (k + 1 - i)) : Nat) : Int) from by have := orW c ((bs.drop i).take (k - i)) (by omega); rw [hlen] at this; rw [take_more h1 hc]; exact this)) (by rfl) (by decide) ?_
      refine WL.yld (wanted_plain (by rfl)) (yld_assign (by rfl)) (by rfl) (by decide) ?_
      refine WL.done ?_
      refine WK.endBlock ?_
      refine WK.region ?_
      refine WL.yld (wanted_plain (by rfl)) (yld_move (by rfl)) (by rfl) (by decide) ?_
      refine WL.yld (wanted_plain (by rfl)) (yld_add (by rfl) (by rfl) (by first | exact w64 (by omega) (by omega) | rfl)) (by rfl) (by decide) ?_
      refine WL.yld (wanted_plain (by rfl)) (yld_assign (by rfl)) (by rfl) (by decide) ?_
      refine WL.done ?_
      exact WK.next hN2 (k + 1, leM ((bs.drop i).take (k + 1 - i))) ⟨by dsimp only; omega, by dsimp only; omega, by dsimp only; omega, rfl⟩ (by dsimp only; omega) (by repeat (first | exact KK.nil | refine KK.cons (by first | rfl | (simp; done)) ?_)) (by repeat (first | exact SelL.nil | exact SelL.self | apply SelL.cons | exact Sel.here | apply Sel.there | apply SelL.skip))
    · skip
      have hc19 := of_decide_eq_false hc19
      have hv8 : v = leM ((bs.drop i).take 8) := by
        rw [hv]
        by_cases h8 : k = i + 8
        · rw [h8, show i + 8 - i = 8 from by omega]
        · rw [List.take_of_length_le (by rw [List.length_drop]; omega), List.take_of_length_le (by rw [List.length_drop]; omega)]
      have hwd := wordsM_drop (bs := bs) (i := i) (by omega)
      rw [← hv8] at hwd
      refine WK.exit ?_
      repeat (first | refine XQ.then_ ?_ | refine XQ.block (by rfl) ?_)
      refine XQ.here ?_
      refine WK.seq ?_
      refine WK.region ?_
      refine WL.yld (wanted_plain (by rfl)) (yld_move (by rfl)) (by rfl) (by decide) ?_
      refine WL.yld (wanted_plain (by rfl)) (yld_move (by rfl)) (by rfl) (by decide) ?_
      refine WL.effR (wanted_plain (by rfl)) (effR_yield hY (by rfl) (by repeat (first | exact Evs.nil | apply Evs.cons | rfl)) pre v b (by rfl) ⟨_, by rw [hw, hwd]⟩ hIp (by repeat (first | exact .here | apply Sel.there))) (by rfl) (by decide) ?_
      rintro ⟨b35, t35⟩ hz35
      try dsimp only
      refine WL.yld (wanted_plain (by rfl)) (yld_not (by rfl)) (by rfl) (by decide) ?_
      refine WL.done ?_
      refine WK.cond (by rfl) (fun hc36 => ?_) (fun hc36 => ?_)
      · skip
        obtain rfl : t35 = false := by simpa using hc36
        dsimp only [cond] at hz35 ⊢
        refine WK.ret ?_
        repeat (first | refine RQ.block ?_ | refine RQ.then_ ?_)
        refine RQ.body (results0 (by rfl)) (fun w s => ?_)
        exact hstop _ b35 hz35 w (s.toCs (by repeat (first | exact SelL.nil | exact SelL.self | apply SelL.cons | exact Sel.here | apply Sel.there | apply SelL.skip)))
      · skip
        obtain rfl : t35 = true := by simpa using hc36
        dsimp only [cond] at hz35 ⊢
        refine WK.skip ?_
        refine WK.endBlock ?_
        refine WK.region ?_
        refine WL.yld (wanted_plain (by rfl)) (yld_move (by rfl)) (by rfl) (by decide) ?_
        refine WL.yld (wanted_plain (by rfl)) (yld_add (by rfl) (by rfl) (by first | exact w64 (by omega) (by omega) | rfl)) (by rfl) (by decide) ?_
        refine WL.yld (wanted_plain (by rfl)) (yld_assign (by rfl)) (by rfl) (by decide) ?_
        refine WL.done ?_
        exact WK.next hN (i + 8, pre ++ [v], b35) ⟨by dsimp only; omega, by dsimp only; rw [hw, hwd, List.append_assoc]; rfl, hz35⟩ (by dsimp only; omega) (by repeat (first | exact KK.nil | refine KK.cons (by first | rfl | (simp; done)) ?_)) (by repeat (first | exact SelL.nil | exact SelL.self | apply SelL.cons | exact Sel.here | apply Sel.there | apply SelL.skip))
  · skip
    have hc9 := of_decide_eq_false hc9
    refine WK.exit ?_
    repeat (first | refine XQ.then_ ?_ | refine XQ.block (by rfl) ?_)
    refine XQ.here ?_
    refine WK.fall (results0 (by rfl)) (fun w s => ?_)
    exact hdone _ b rfl (by rw [hw, wordsM_nil (by omega), List.append_nil]; exact hIp) w (s.toCs (by repeat (first | exact SelL.nil | exact SelL.self | apply SelL.cons | exact Sel.here | apply Sel.there | apply SelL.skip)))
set_option maxRecDepth 20000 in
set_option maxHeartbeats 1000000 in
theorem wordsB_spec (ad : Option Addr) (len cap : Nat) :
    Triple Try.prog 62 #[.slice ad len cap] [] (Nat) (fun _ => True) (fun q => .func (.func 72) #[] #[.pointer (some ⟨q, 0, none⟩)]) (fun q => [row true q 31 [.slice ad len cap]]) := by
  refine Triple.of_body (args := [.slice ad len cap]) Try.func62 rfl Try.ntmps62 (by simp) (fun g F => ?_)
  dsimp only [numb, List.cons_append, List.nil_append]
  refine WK.seq ?_
  refine WK.region ?_
  refine WL.eff (wanted_plain (by rfl)) (eff_box (by rfl) (by rfl)) (by rfl) (by decide) ?_
  rintro b1 -
  try dsimp only
  refine WL.yld (wanted_plain (by rfl)) (yld_assign (by rfl)) (by rfl) (by decide) ?_
  refine WL.done ?_
  refine WK.seq ?_
  refine WK.region ?_
  refine WL.yld (wanted_plain (by rfl)) (yld_mkFunc (by repeat (first | exact Evs.nil | apply Evs.cons | rfl)) (by repeat (first | exact Evs.nil | apply Evs.cons | rfl))) (by rfl) (by decide) ?_
  refine WL.yld (wanted_plain (by rfl)) (yld_assign (by rfl)) (by rfl) (by decide) ?_
  refine WL.done ?_
  refine WK.ret ?_
  repeat (first | refine RQ.block ?_ | refine RQ.then_ ?_)
  refine RQ.body (results1 (by rfl) (by rfl)) (fun w s => ?_)
  exact ⟨b1, trivial, rfl, s⟩
set_option maxRecDepth 20000 in
set_option maxHeartbeats 1000000 in
theorem wordsS_spec (bs : List UInt8) :
    Triple Try.prog 73 #[.string ⟨bs.toArray⟩] [] (Nat) (fun _ => True) (fun q => .func (.func 77) #[] #[.pointer (some ⟨q, 0, none⟩)]) (fun q => [row true q 9 [.string ⟨bs.toArray⟩]]) := by
  refine Triple.of_body (args := [.string ⟨bs.toArray⟩]) Try.func73 rfl Try.ntmps73 (by simp) (fun g F => ?_)
  dsimp only [numb, List.cons_append, List.nil_append]
  refine WK.seq ?_
  refine WK.region ?_
  refine WL.eff (wanted_plain (by rfl)) (eff_box (by rfl) (by rfl)) (by rfl) (by decide) ?_
  rintro b1 -
  try dsimp only
  refine WL.yld (wanted_plain (by rfl)) (yld_assign (by rfl)) (by rfl) (by decide) ?_
  refine WL.done ?_
  refine WK.seq ?_
  refine WK.region ?_
  refine WL.yld (wanted_plain (by rfl)) (yld_mkFunc (by repeat (first | exact Evs.nil | apply Evs.cons | rfl)) (by repeat (first | exact Evs.nil | apply Evs.cons | rfl))) (by rfl) (by decide) ?_
  refine WL.yld (wanted_plain (by rfl)) (yld_assign (by rfl)) (by rfl) (by decide) ?_
  refine WL.done ?_
  refine WK.ret ?_
  repeat (first | refine RQ.block ?_ | refine RQ.then_ ?_)
  refine RQ.body (results1 (by rfl) (by rfl)) (fun w s => ?_)
  exact ⟨b1, trivial, rfl, s⟩
set_option maxRecDepth 20000 in
set_option maxHeartbeats 1000000 in
theorem mix_spec (s w : Int) :
    Triple Try.prog 74 #[.int .u64 s, .int .u64 w] [] (Unit) (fun _ => True) (fun _ => .int .u64 (mixM s w)) (fun _ => []) := by
  refine Triple.of_body (args := [.int .u64 s, .int .u64 w]) Try.func74 rfl Try.ntmps74 (by simp) (fun g F => ?_)
  dsimp only [numb, List.cons_append, List.nil_append]
  refine WK.seq ?_
  refine WK.region ?_
  refine WL.yld (wanted_plain (by rfl)) (yld_assign (by rfl)) (by rfl) (by decide) ?_
  refine WL.done ?_
  refine WK.seq ?_
  refine WK.region ?_
  refine WL.yld (wanted_plain (by rfl)) (yld_move (by rfl)) (by rfl) (by decide) ?_
  refine WL.yld (wanted_plain (by rfl)) (yld_move (by rfl)) (by rfl) (by decide) ?_
  refine WL.yld (wanted_plain (by rfl)) (yld_xor (by rfl) (by rfl) (by rfl)) (by rfl) (by decide) ?_
  refine WL.yld (wanted_plain (by rfl)) (yld_mul (by rfl) (by rfl) (by rfl)) (by rfl) (by decide) ?_
  refine WL.yld (wanted_plain (by rfl)) (yld_assign (by rfl)) (by rfl) (by decide) ?_
  refine WL.done ?_
  refine WK.seq ?_
  refine WK.region ?_
  refine WL.yld (wanted_plain (by rfl)) (yld_move (by rfl)) (by rfl) (by decide) ?_
  refine WL.yld (wanted_plain (by rfl)) (yld_move (by rfl)) (by rfl) (by decide) ?_
  refine WL.yld (wanted_plain (by rfl)) (yld_shr (by rfl) (by rfl) (by omega) (by rfl)) (by rfl) (by decide) ?_
  refine WL.yld (wanted_plain (by rfl)) (yld_xor (by rfl) (by rfl) (by rfl)) (by rfl) (by decide) ?_
  refine WL.yld (wanted_plain (by rfl)) (yld_assign (by rfl)) (by rfl) (by decide) ?_
  refine WL.done ?_
  refine WK.ret ?_
  repeat (first | refine RQ.block ?_ | refine RQ.then_ ?_)
  refine RQ.body (results1 (by rfl) (by rfl)) (fun w s => ?_)
  exact ⟨(), trivial, rfl, by assumption⟩
set_option maxRecDepth 20000 in
set_option maxHeartbeats 1000000 in
theorem sum_spec (label : List UInt8) (p : Bool) (ad : Option Addr) (len cap : Nat) (l : List Int) (h1 : label.length ≤ 140737488355328) (h2 : len ≤ 140737488355328) :
    Triple Try.prog 63 #[.string ⟨label.toArray⟩, .slice ad len cap] [sl p 3 1 ad len cap (l.map (Value.int .i64))] (Unit) (fun _ => True) (fun _ => .int .u64 (hashM label l)) (fun _ => [sl p 3 1 ad len cap (l.map (Value.int .i64))]) := by
  refine Triple.of_body (args := [.string ⟨label.toArray⟩, .slice ad len cap]) Try.func63 rfl Try.ntmps63 (by simp) (fun g F => ?_)
  dsimp only [numb, List.cons_append, List.nil_append]
  refine WK.know (fun w s => Sat.slLen (s.sel1 (A := sl p 3 1 ad len cap (l.map (Value.int .i64))) (by repeat (first | exact .here | apply Sel.there)))) (fun hkn => ?_)
  obtain ⟨n1, -⟩ := hkn
  simp only [Nat.mul_one, List.length_map] at n1
  have hsz : (⟨label.toArray⟩ : ByteArray).size = label.length := by simp [ByteArray.size]
  refine WK.seq ?_
  refine WK.region ?_
  refine WL.yld (wanted_plain (by rfl)) (yld_assign (by rfl)) (by rfl) (by decide) ?_
  refine WL.done ?_
  refine WK.seq ?_
  refine WK.region ?_
  refine WL.eff (wanted_plain (by rfl)) (eff_alloc (by exact Try.zeroValue75) (by rfl)) (by rfl) (by decide) ?_
  rintro b5 -
  try dsimp only
  refine WL.eff0 (wanted_plain (by rfl)) (eff_store (by rfl) (by rfl) (by exact Try.sizeOf75) (by rfl) (by rfl) (by rfl) (by repeat (first | exact .here | apply Sel.there)) (by repeat (first | exact SetAts.nil | apply SetAts.cons | exact SetAt.here | apply SetAt.there))) (by rfl) ?_
  rintro _ -
  try dsimp only
  refine WL.done ?_
  refine WK.seq ?_
  refine WK.seq ?_
  refine WK.region ?_
  refine WL.yld (wanted_plain (by rfl)) (yld_move (by rfl)) (by rfl) (by decide) ?_
  refine WL.eff (wanted_plain (by rfl)) (eff_call (by exact Try.call73) (by repeat (first | exact Evs.nil | apply Evs.cons | rfl)) (by repeat (first | exact SelL.nil | exact SelL.self | apply SelL.cons | exact Sel.here | apply Sel.there | apply SelL.skip)) (wordsS_spec label)) (by rfl) (by decide) ?_
  rintro q10 -
  try dsimp only
  refine WL.done ?_
  refine WK.block ?_
  refine WK.marks0 ?_
  refine WK.rangeFunc rfl (ps := [11]) (by rfl) (by exact Try.call77) (wordsS_iter q10 label h1) (fun _ => rfl) (by decide) (fun pre s => s = pre.foldl mixW 0) (fun s => [row true b5 75 [.int .u64 s]]) (fun _ _ _ => False) (fun _ _ => []) (0) (rfl) (by repeat (first | exact .here | apply Sel.there)) (by repeat (first | exact SelL.nil | exact SelL.self | apply SelL.cons | exact Sel.here | apply Sel.there | apply SelL.skip)) (by repeat (first | exact SelL.nil | exact SelL.self | apply SelL.cons | exact Sel.here | apply Sel.there | apply SelL.skip)) ?_ ?_ ?_
  · intro r0 hds0 L0a L0b F0 pre0 x0 bb0 hS0 hI0 N0 QF0 Q0 hb0 hnext0 hret0 hexit0
    subst hI0
    try dsimp only [bindK, List.cons_append, List.nil_append]
    refine WK.region ?_
    refine WL.yld (wanted_plain (by rfl)) (yld_assign (by rfl)) (by rfl) (by decide) ?_
    refine WL.done ?_
    refine WK.begin hb0 (by repeat (first | exact .here | apply Sel.there)) ?_
    refine WK.block ?_
    refine WK.region ?_
    refine WL.yld (wanted_plain (by rfl)) (yld_load (by rfl) (by exact Try.isAgg75) (by repeat (first | exact .here | apply Sel.there)) (by rfl)) (by rfl) (by decide) ?_
    refine WL.yld (wanted_plain (by rfl)) (yld_move (by rfl)) (by rfl) (by decide) ?_
    refine WL.eff (wanted_plain (by rfl)) (eff_call (by exact Try.call74) (by repeat (first | exact Evs.nil | apply Evs.cons | rfl)) (by repeat (first | exact SelL.nil | exact SelL.self | apply SelL.cons | exact Sel.here | apply Sel.there | apply SelL.skip)) (mix_spec _ _)) (by rfl) (by decide) ?_
    rintro _ -
    try dsimp only
    refine WL.eff0 (wanted_plain (by rfl)) (eff_store (by rfl) (by rfl) (by exact Try.sizeOf75) (by rfl) (by rfl) (by rfl) (by repeat (first | exact .here | apply Sel.there)) (by repeat (first | exact SetAts.nil | apply SetAts.cons | exact SetAt.here | apply SetAt.there))) (by rfl) ?_
    rintro _ -
    try dsimp only
    refine WL.done ?_
    refine WK.endBlock ?_
    refine WK.roundEnd hnext0 _ (by rw [List.foldl_append]; try rfl) (by repeat (first | exact SelL.nil | exact SelL.self | apply SelL.cons | exact Sel.here | apply Sel.there | apply SelL.skip))
  · intro r0 hro0 xs0 bb0 hS0 hI0
    subst hS0 hI0
    try dsimp only [List.cons_append, List.nil_append]
    refine WK.endBlockM (by simp [rnd0_ro, *]) ?_
    refine WK.seq ?_
    refine WK.region ?_
    refine WL.yld (wanted_plain (by rfl)) (yld_load (by rfl) (by exact Try.isAgg75) (by repeat (first | exact .here | apply Sel.there)) (by rfl)) (by rfl) (by decide) ?_
    refine WL.yld (wanted_plain (by rfl)) (yld_move (by rfl)) (by rfl) (by decide) ?_
    refine WL.yld (wanted_plain (by rfl)) (yld_lenS (by rfl) (by exact Try.runUnderlying9)) (by rfl) (by decide) ?_
    refine WL.yld (wanted_plain (by rfl)) (yld_convInt (by rfl) (by exact Try.runUnderlying3) (by exact Try.runUnderlying75) (show IntKind.u64.wrap (((⟨label.toArray⟩ : ByteArray).size : Nat) : Int) = ((label.length : Nat) : Int) from by rw [hsz, u64wrap, Nat.mod_eq_of_lt (by omega)])) (by rfl) (by decide) ?_
    refine WL.eff (wanted_plain (by rfl)) (eff_call (by exact Try.call74) (by repeat (first | exact Evs.nil | apply Evs.cons | rfl)) (by repeat (first | exact SelL.nil | exact SelL.self | apply SelL.cons | exact Sel.here | apply Sel.there | apply SelL.skip)) (mix_spec _ _)) (by rfl) (by decide) ?_
    rintro _ -
    try dsimp only
    refine WL.yld (wanted_plain (by rfl)) (yld_move (by rfl)) (by rfl) (by decide) ?_
    refine WL.yld (wanted_plain (by rfl)) (yld_len (by rfl) (by exact Try.runUnderlying22)) (by rfl) (by decide) ?_
    refine WL.yld (wanted_plain (by rfl)) (yld_convInt (by rfl) (by exact Try.runUnderlying3) (by exact Try.runUnderlying75) (show IntKind.u64.wrap ((len : Nat) : Int) = ((l.length : Nat) : Int) from by rw [u64wrap, Nat.mod_eq_of_lt (by omega), n1])) (by rfl) (by decide) ?_
    refine WL.eff (wanted_plain (by rfl)) (eff_call (by exact Try.call74) (by repeat (first | exact Evs.nil | apply Evs.cons | rfl)) (by repeat (first | exact SelL.nil | exact SelL.self | apply SelL.cons | exact Sel.here | apply Sel.there | apply SelL.skip)) (mix_spec _ _)) (by rfl) (by decide) ?_
    rintro _ -
    try dsimp only
    refine WL.eff0 (wanted_plain (by rfl)) (eff_store (by rfl) (by rfl) (by exact Try.sizeOf75) (by rfl) (by rfl) (by rfl) (by repeat (first | exact .here | apply Sel.there)) (by repeat (first | exact SetAts.nil | apply SetAts.cons | exact SetAt.here | apply SetAt.there))) (by rfl) ?_
    rintro _ -
    try dsimp only
    refine WL.done ?_
    refine WK.seq ?_
    refine WK.seq ?_
    refine WK.region ?_
    refine WL.yld (wanted_plain (by rfl)) (yld_move (by rfl)) (by rfl) (by decide) ?_
    refine WL.yld (wanted_plain (by rfl)) (yld_len (by rfl) (by exact Try.runUnderlying22)) (by rfl) (by decide) ?_
    refine WL.yld (wanted_plain (by rfl)) (yld_move (by rfl)) (by rfl) (by decide) ?_
    refine WL.done ?_
    refine WK.block ?_
    refine WK.loop (ι := Nat × Int) (fun x => x.1 ≤ len ∧ x.2 = (l.take x.1).foldl mixI (mixM (mixM ((wordsM label).foldl mixW 0) label.length) l.length)) (fun x => [(5, .pointer (some ⟨b5, 0, none⟩)), (24, .slice ad len cap), (25, .int .i64 (len : Int)), (26, .int .i64 (x.1 : Int))]) (fun x => row true b5 75 [.int .u64 x.2] :: marksP r0.ds :: sl p 3 1 ad len cap (l.map (Value.int .i64)) :: F) (fun x => len - x.1) ((0, mixM (mixM ((wordsM label).foldl mixW 0) label.length) l.length)) (⟨Nat.zero_le _, rfl⟩) (by repeat (first | exact KK.nil | refine KK.cons (by first | rfl | (simp; done)) ?_)) (by repeat (first | exact SelL.nil | exact SelL.self | apply SelL.cons | exact Sel.here | apply Sel.there | apply SelL.skip)) ?_
    rintro ⟨i, s⟩ ⟨hi, hs⟩ N hN
    dsimp only at hi hs ⊢
    refine WK.seq ?_
    refine WK.region ?_
    refine WL.yld (wanted_plain (by rfl)) (yld_lss (by rfl) (by rfl)) (by rfl) (by decide) ?_
    refine WL.done ?_
    refine WK.seq ?_
    refine WK.cond (by rfl) (fun hc27 => ?_) (fun hc27 => ?_)
    · skip
      have hc27 := of_decide_eq_true hc27
      obtain ⟨x, hx⟩ : ∃ x, l[i]? = some x := ⟨_, List.getElem?_eq_getElem (by omega)⟩
      refine WK.skip ?_
      refine WK.seq ?_
      refine WK.block ?_
      refine WK.seq ?_
      refine WK.region ?_
      refine WL.yld (wanted_plain (by rfl)) (yld_indexAddrS (by rfl) (by rfl) (by exact Try.runUnderlying22) (by exact Try.sizeOf3) (by repeat (first | exact .here | apply Sel.there)) (i) (by first | rfl | omega) (by omega) (by omega) (by exact Nat.mul_one _)) (by rfl) (by decide) ?_
      refine WL.yld (wanted_plain (by rfl)) (yld_loadS (by rfl) (by exact Try.isAgg3) (by repeat (first | exact .here | apply Sel.there)) (by rw [List.getElem?_map, hx]; rfl)) (by rfl) (by decide) ?_
      refine WL.yld (wanted_plain (by rfl)) (yld_assign (by rfl)) (by rfl) (by decide) ?_
      refine WL.done ?_
      refine WK.region ?_
      refine WL.yld (wanted_plain (by rfl)) (yld_load (by rfl) (by exact Try.isAgg75) (by repeat (first | exact .here | apply Sel.there)) (by rfl)) (by rfl) (by decide) ?_
      refine WL.yld (wanted_plain (by rfl)) (yld_move (by rfl)) (by rfl) (by decide) ?_
      refine WL.yld (wanted_plain (by rfl)) (yld_convInt (by rfl) (by exact Try.runUnderlying3) (by exact Try.runUnderlying75) (by rfl)) (by rfl) (by decide) ?_
      refine WL.eff (wanted_plain (by rfl)) (eff_call (by exact Try.call74) (by repeat (first | exact Evs.nil | apply Evs.cons | rfl)) (by repeat (first | exact SelL.nil | exact SelL.self | apply SelL.cons | exact Sel.here | apply Sel.there | apply SelL.skip)) (mix_spec _ _)) (by rfl) (by decide) ?_
      rintro _ -
      try dsimp only
      refine WL.eff0 (wanted_plain (by rfl)) (eff_store (by rfl) (by rfl) (by exact Try.sizeOf75) (by rfl) (by rfl) (by rfl) (by repeat (first | exact .here | apply Sel.there)) (by repeat (first | exact SetAts.nil | apply SetAts.cons | exact SetAt.here | apply SetAt.there))) (by rfl) ?_
      rintro _ -
      try dsimp only
      refine WL.done ?_
      refine WK.endBlockM (by simp [rnd0_ro, *]) ?_
      refine WK.region ?_
      refine WL.yld (wanted_plain (by rfl)) (yld_add (by rfl) (by rfl) (by first | exact w64 (by omega) (by omega) | rfl)) (by rfl) (by decide) ?_
      refine WL.yld (wanted_plain (by rfl)) (yld_move (by rfl)) (by rfl) (by decide) ?_
      refine WL.done ?_
      exact WK.next hN (i + 1, mixI s x) ⟨by dsimp only; omega, by dsimp only; rw [hs, List.take_add_one, hx, List.foldl_append]; rfl⟩ (by dsimp only; omega) (by repeat (first | exact KK.nil | refine KK.cons (by first | rfl | (simp; done)) ?_)) (by repeat (first | exact SelL.nil | exact SelL.self | apply SelL.cons | exact Sel.here | apply Sel.there | apply SelL.skip))
    · skip
      have hc27 := of_decide_eq_false hc27
      refine WK.exit ?_
      repeat (first | refine XQ.then_ ?_ | refine XQ.block (by rfl) ?_)
      refine XQ.hereM (by simp [rnd0_ro, *]) ?_
      refine WK.seq ?_
      refine WK.region ?_
      refine WL.yld (wanted_plain (by rfl)) (yld_load (by rfl) (by exact Try.isAgg75) (by repeat (first | exact .here | apply Sel.there)) (by rfl)) (by rfl) (by decide) ?_
      refine WL.eff (wanted_plain (by rfl)) (eff_call (by exact Try.call74) (by repeat (first | exact Evs.nil | apply Evs.cons | rfl)) (by repeat (first | exact SelL.nil | exact SelL.self | apply SelL.cons | exact Sel.here | apply Sel.there | apply SelL.skip)) (mix_spec _ _)) (by rfl) (by decide) ?_
      rintro _ -
      try dsimp only
      refine WL.yld (wanted_plain (by rfl)) (yld_assign (by rfl)) (by rfl) (by decide) ?_
      refine WL.done ?_
      refine WK.ret ?_
      repeat (first | refine RQ.block ?_ | refine RQ.then_ ?_)
      refine RQ.bodyM (by repeat (first | exact .here | apply Sel.there)) (results1 (by rfl) (by rfl)) (fun w s => ?_)
      refine ⟨(), trivial, ?_, s.toCs (by repeat (first | exact SelL.nil | exact SelL.self | apply SelL.cons | exact Sel.here | apply Sel.there | apply SelL.skip))⟩
      rw [hs, List.take_of_length_le (by omega)]
      rfl
  · exact fun _ _ _ _ _ _ h => h.elim
set_option maxRecDepth 20000 in
set_option maxHeartbeats 1000000 in
theorem hbytes_spec (label : List UInt8) (p : Bool) (ad : Option Addr) (len cap : Nat) (b : List UInt8) (h1 : label.length ≤ 140737488355328) (h2 : len ≤ 1000000) :
    Triple Try.prog 41 #[.string ⟨label.toArray⟩, .slice ad len cap] [sl p 5 1 ad len cap (b.map bv)] (Unit) (fun _ => True) (fun _ => .int .u64 (hashB label b)) (fun _ => [sl p 5 1 ad len cap (b.map bv)]) := by
  refine Triple.of_body (args := [.string ⟨label.toArray⟩, .slice ad len cap]) Try.func41 rfl Try.ntmps41 (by simp) (fun g F => ?_)
  dsimp only [numb, List.cons_append, List.nil_append]
  refine WK.know (fun w s => Sat.slLen (s.sel1 (A := sl p 5 1 ad len cap (b.map bv)) (by repeat (first | exact .here | apply Sel.there)))) (fun hkn => ?_)
  obtain ⟨n1, -⟩ := hkn
  simp only [Nat.mul_one, List.length_map] at n1
  have hwl := wordsM_len b
  refine WK.seq ?_
  refine WK.region ?_
  refine WL.yld (wanted_plain (by rfl)) (yld_assign (by rfl)) (by rfl) (by decide) ?_
  refine WL.done ?_
  refine WK.seq ?_
  refine WK.region ?_
  refine WL.eff (wanted_plain (by rfl)) (eff_alloc (by exact Try.zeroValue22) (by rfl)) (by rfl) (by decide) ?_
  rintro b5 -
  try dsimp only
  refine WL.done ?_
  refine WK.seq ?_
  refine WK.seq ?_
  refine WK.sat (fun w s => Sat.nilSl s true 3 1) ?_
  refine WK.region ?_
  refine WL.yld (wanted_plain (by rfl)) (yld_move (by rfl)) (by rfl) (by decide) ?_
  refine WL.eff (wanted_plain (by rfl)) (eff_call (by exact Try.call62) (by repeat (first | exact Evs.nil | apply Evs.cons | rfl)) (by repeat (first | exact SelL.nil | exact SelL.self | apply SelL.cons | exact Sel.here | apply Sel.there | apply SelL.skip)) (wordsB_spec ad len cap)) (by rfl) (by decide) ?_
  rintro q8 -
  try dsimp only
  refine WL.done ?_
  refine WK.block ?_
  refine WK.marks0 ?_
  refine WK.rangeFunc rfl (ps := [9]) (by rfl) (by exact Try.call72) (wordsB_iter q8 p ad len cap b (by omega)) (fun _ => rfl) (by decide) (fun (pre : List Nat) (x : (Option Addr × Nat × Nat) × List Int) => x.2 = pre.map wordI ∧ x.1.2.1 = x.2.length) (fun x => [row true b5 22 [.slice x.1.1 x.1.2.1 x.1.2.2], sl true 3 1 x.1.1 x.1.2.1 x.1.2.2 (x.2.map (Value.int .i64))]) (fun _ _ _ => False) (fun _ _ => []) (((none, 0, 0), [])) (⟨rfl, rfl⟩) (by repeat (first | exact .here | apply Sel.there)) (by repeat (first | exact SelL.nil | exact SelL.self | apply SelL.cons | exact Sel.here | apply Sel.there | apply SelL.skip)) (by repeat (first | exact SelL.nil | exact SelL.self | apply SelL.cons | exact Sel.here | apply Sel.there | apply SelL.skip)) ?_ ?_ ?_
  · intro r0 hds0 L0a L0b F0 pre0 x0 bb0 hS0 hI0 N0 QF0 Q0 hb0 hnext0 hret0 hexit0
    obtain ⟨⟨ad2, len2, cap2⟩, ys⟩ := bb0
    obtain ⟨hy, hyl⟩ := hI0
    dsimp only at hy hyl ⊢
    obtain ⟨zs, hzs⟩ := hS0
    have hzl := congrArg List.length hzs
    simp only [List.length_append, List.length_cons] at hzl
    have hyl2 : ys.length = pre0.length := by rw [hy, List.length_map]
    try dsimp only [bindK, List.cons_append, List.nil_append]
    refine WK.region ?_
    refine WL.yld (wanted_plain (by rfl)) (yld_assign (by rfl)) (by rfl) (by decide) ?_
    refine WL.done ?_
    refine WK.begin hb0 (by repeat (first | exact .here | apply Sel.there)) ?_
    refine WK.block ?_
    refine WK.region ?_
    refine WL.yld (wanted_plain (by rfl)) (yld_load (by rfl) (by exact Try.isAgg22) (by repeat (first | exact .here | apply Sel.there)) (by rfl)) (by rfl) (by decide) ?_
    refine WL.yld (wanted_plain (by rfl)) (yld_move (by rfl)) (by rfl) (by decide) ?_
    refine WL.yld (wanted_plain (by rfl)) (yld_convInt (by rfl) (by exact Try.runUnderlying75) (by exact Try.runUnderlying3) (by rfl)) (by rfl) (by decide) ?_
    refine WL.eff (wanted_plain (by rfl)) (eff_mkSlice1 (by rfl) (by rfl) (by exact Try.runUnderlying22) (by exact Try.sizeOf3) (by exact Try.zeroValue3) (by rfl) (by rfl) (by decide) (by rfl)) (by rfl) (by decide) ?_
    rintro b13 -
    try dsimp only
    refine WL.eff (wanted_plain (by rfl)) (eff_append (by rfl) (by rfl) (by exact elem22) (by exact Try.underlying22) (by repeat (first | exact SelL.nil | exact SelL.self | apply SelL.cons | exact Sel.here | apply Sel.there | apply SelL.skip)) (by omega) (by omega)) (by rfl) (by decide) ?_
    rintro ⟨ad14, cap14⟩ -
    try dsimp only
    refine WL.eff0 (wanted_plain (by rfl)) (eff_store (by rfl) (by rfl) (by exact Try.sizeOf22) (by rfl) (by rfl) (by rfl) (by repeat (first | exact .here | apply Sel.there)) (by repeat (first | exact SetAts.nil | apply SetAts.cons | exact SetAt.here | apply SetAt.there))) (by rfl) ?_
    rintro _ -
    try dsimp only
    refine WL.done ?_
    refine WK.endBlock ?_
    refine WK.roundEnd hnext0 ((ad14, len2 + 1, cap14), ys ++ [wordI x0]) ⟨by dsimp only; rw [hy, List.map_append]; rfl, by dsimp only; rw [List.length_append]; simp; omega⟩ (by dsimp only; rw [List.map_append]; exact (by repeat (first | exact SelL.nil | exact SelL.self | apply SelL.cons | exact Sel.here | apply Sel.there | apply SelL.skip)))
  · intro r0 hro0 xs0 bb0 hS0 hI0
    obtain ⟨⟨ad2, len2, cap2⟩, ys⟩ := bb0
    obtain ⟨hy, hyl⟩ := hI0
    dsimp only at hS0 hy hyl ⊢
    subst hS0
    have hyl2 : ys.length = (wordsM b).length := by rw [hy, List.length_map]
    try dsimp only [List.cons_append, List.nil_append]
    refine WK.endBlockM (by simp [rnd0_ro, *]) ?_
    refine WK.seq ?_
    refine WK.region ?_
    refine WL.yld (wanted_plain (by rfl)) (yld_move (by rfl)) (by rfl) (by decide) ?_
    refine WL.yld (wanted_plain (by rfl)) (yld_load (by rfl) (by exact Try.isAgg22) (by repeat (first | exact .here | apply Sel.there)) (by rfl)) (by rfl) (by decide) ?_
    refine WL.yld (wanted_plain (by rfl)) (yld_move (by rfl)) (by rfl) (by decide) ?_
    refine WL.yld (wanted_plain (by rfl)) (yld_len (by rfl) (by exact Try.runUnderlying31)) (by rfl) (by decide) ?_
    refine WL.eff (wanted_plain (by rfl)) (eff_mkSlice1 (by rfl) (by rfl) (by exact Try.runUnderlying22) (by exact Try.sizeOf3) (by exact Try.zeroValue3) (by rfl) (by rfl) (by decide) (by rfl)) (by rfl) (by decide) ?_
    rintro b19 -
    try dsimp only
    refine WL.eff (wanted_plain (by rfl)) (eff_append (by rfl) (by rfl) (by exact elem22) (by exact Try.underlying22) (by repeat (first | exact SelL.nil | exact SelL.self | apply SelL.cons | exact Sel.here | apply Sel.there | apply SelL.skip)) (by omega) (by omega)) (by rfl) (by decide) ?_
    rintro ⟨ad20, cap20⟩ -
    try dsimp only
    have hlist : ys.map (Value.int .i64) ++ [Value.int .i64 (len : Int)] = ((wordsM b).map wordI ++ [(b.length : Int)]).map (Value.int .i64) := by rw [hy, n1, List.map_append]; rfl
    rw [hlist]
    refine WL.eff (wanted_plain (by rfl)) (eff_call (by exact Try.call63) (by repeat (first | exact Evs.nil | apply Evs.cons | rfl)) (by repeat (first | exact SelL.nil | exact SelL.self | apply SelL.cons | exact Sel.here | apply Sel.there | apply SelL.skip)) (sum_spec label true _ _ _ ((wordsM b).map wordI ++ [(b.length : Int)]) h1 (by omega))) (by rfl) (by decide) ?_
    rintro _ -
    try dsimp only
    refine WL.yld (wanted_plain (by rfl)) (yld_assign (by rfl)) (by rfl) (by decide) ?_
    refine WL.done ?_
    refine WK.ret ?_
    repeat (first | refine RQ.block ?_ | refine RQ.then_ ?_)
    refine RQ.bodyM (by repeat (first | exact .here | apply Sel.there)) (results1 (by rfl) (by rfl)) (fun w s => ?_)
    exact ⟨(), trivial, rfl, s.toCs (by repeat (first | exact SelL.nil | exact SelL.self | apply SelL.cons | exact Sel.here | apply Sel.there | apply SelL.skip))⟩
  · exact fun _ _ _ _ _ _ h => h.elim
end Go.Proofs.Ytnknclbiamhnaaa
