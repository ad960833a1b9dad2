import Derived.Test.YtnknclbiamhnaaaChanP
import Derived.Test.YtnknclbiamhnaaaSepJ
import Derived.Test.YtnknclbiamhnaaaSepH
namespace Go.Proofs.Ytnknclbiamhnaaa
set_option linter.unusedVariables false
set_option linter.unusedSimpArgs false
open Go Go.Sep
attribute [local irreducible] row sl mapO held exL allR byt mapI slr rangeI
section
variable {α : Type} {Rl : Value → α → HProp} {g w : World} {Ps : List HProp}
theorem Sat.allHead {vs : List Value} {xs : List α} {i : Nat} {v : Value} {x : α} (hv : vs[i]? = some v) (hx : xs[i]? = some x) (s : Sat g w (allR Rl (vs.drop i) (xs.drop i) :: Ps)) : Sat g w (Rl v x :: allR Rl (vs.drop (i + 1)) (xs.drop (i + 1)) :: Ps) := by
  have h1 : i < vs.length := by
    rcases Nat.lt_or_ge i vs.length with h | h
    · exact h
    · rw [List.getElem?_eq_none h] at hv; cases hv
  have h2 : i < xs.length := by
    rcases Nat.lt_or_ge i xs.length with h | h
    · exact h
    · rw [List.getElem?_eq_none h] at hx; cases hx
  rw [List.drop_eq_getElem_cons h1, List.drop_eq_getElem_cons h2] at s
  rw [List.getElem?_eq_getElem h1] at hv
  rw [List.getElem?_eq_getElem h2] at hx
  cases hv; cases hx
  exact Sat.allUncons s
theorem Sat.bytHead {t : TypeId} {p : Bool} {vs : List Value} {xs : List (List UInt8)} {i : Nat} {bs : List UInt8} (hl : vs.length = xs.length) (hx : xs[i]? = some bs) (s : Sat g w (allR (byt t p) (vs.drop i) (xs.drop i) :: Ps)) :
    ∃ r : Option Addr × Nat × Nat, (vs[i]? = some (.slice r.1 r.2.1 r.2.2) ∧ r.2.1 = bs.length) ∧ Sat g w (sl p t 1 r.1 r.2.1 r.2.2 (bs.map bv) :: allR (byt t p) (vs.drop (i + 1)) (xs.drop (i + 1)) :: Ps) := by
  have h2 : i < xs.length := by
    rcases Nat.lt_or_ge i xs.length with h | h
    · exact h
    · rw [List.getElem?_eq_none h] at hx; cases hx
  have hv : vs[i]? = some vs[i] := List.getElem?_eq_getElem (by omega)
  have s1 := Sat.allHead hv hx s
  obtain ⟨ad, len, cap, h1, h3, s2⟩ := s1.bytOpen
  exact ⟨(ad, len, cap), ⟨by rw [hv, h1], h3⟩, s2⟩
end
theorem inAck (W : Int) (N : Nat) : inM (PE W N ⟨0, 0, false⟩) ⟨0, (N : Int), []⟩ = ([], PE W N ⟨N, 0, false⟩) := by
  unfold inM
  rw [if_neg, if_pos rfl, ackPE (Nat.zero_le _) (Nat.le_refl _)]
  simp only [PE, msgs_len]
  rintro (h | h | h)
  · simp [validB] at h
  · omega
  · simp at h
def cL (q : Option Nat) (W : Int) (i : Nat) : List HProp := match q with
  | none => []
  | some q => [endR q (PE W i ⟨0, 0, false⟩)]
theorem np0 (W : Int) (N : Nat) : np (nm W N ⟨0, 0, false⟩) ⟨0, 0, false⟩ = nm W N ⟨0, 0, false⟩ := by
  unfold np
  split
  · rename_i h; rw [h]; rfl
  · rfl
theorem pk0 {n i : Nat} (h : i < n) : pk n ⟨0, 0, false⟩ i = ⟨(i : Int) + 1, 0, [UInt8.ofNat i]⟩ := by
  unfold pk
  rw [if_neg (by omega)]
  simp
def cI (N : Nat) (c : Int) (i : Nat) : Option Nat → Prop
  | none => N = 0 ∨ (i : Int) ≤ c
  | some _ => c < i
set_option maxRecDepth 20000 in
set_option maxHeartbeats 1000000 in
theorem clone2_spec (p : Bool) (ad : Option Addr) (len cap : Nat) (xs : List Value) (hl : len ≤ 1000000) :
    Triple Try.prog 47 #[.slice ad len cap] [sl p 31 1 ad len cap xs] (Option Addr × Nat × Nat) (fun r => r.2.1 = len) (fun r => .slice r.1 r.2.1 r.2.2) (fun r => [sl true 31 1 r.1 r.2.1 r.2.2 xs, sl p 31 1 ad len cap xs]) := by
  refine Triple.of_body (args := [.slice ad len cap]) Try.func47 rfl Try.ntmps47 (by simp) (fun g F => ?_)
  dsimp only [numb, List.cons_append, List.nil_append]
  refine WK.seq ?_
  refine WK.region ?_
  refine WL.yld (wanted_plain (by rfl)) (yld_assign (by rfl)) (by rfl) (by decide) ?_
  refine WL.done ?_
  refine WK.seq ?_
  refine WK.seq ?_
  refine WK.region ?_
  refine WL.yld (wanted_plain (by rfl)) (yld_move (by rfl)) (by rfl) (by decide) ?_
  refine WL.yld (wanted_plain (by rfl)) (yld_eqlNilS (by rfl) (by rfl) (by exact Try.runUnderlying42)) (by rfl) (by decide) ?_
  refine WL.done ?_
  refine WK.cond (by rfl) (fun hc4 => ?_) (fun hc4 => ?_)
  · skip
    refine WK.seq ?_
    refine WK.region ?_
    refine WL.yld (wanted_plain (by rfl)) (yld_assign (by rfl)) (by rfl) (by decide) ?_
    refine WL.done ?_
    refine WK.ret ?_
    repeat (first | refine RQ.block ?_ | refine RQ.then_ ?_)
    refine RQ.body (results1 (by rfl) (by rfl)) (fun w s => ?_)
    obtain rfl : ad = none := by simpa using hc4
    rcases s.slOpen with ⟨-, rfl, rfl, rfl, s'⟩ | ⟨b, pre, rest, h, -⟩
    · exact ⟨(none, 0, 0), rfl, rfl, s.nilSl true 31 1⟩
    · cases h
  · skip
    refine WK.skip ?_
    refine WK.seq ?_
    refine WK.region ?_
    refine WL.eff (wanted_plain (by rfl)) (eff_mkSlice0 (by exact Try.runUnderlying42) (by exact Try.sizeOf31)) (by rfl) (by decide) ?_
    rintro b5 -
    try dsimp only
    refine WL.yld (wanted_plain (by rfl)) (yld_move (by rfl)) (by rfl) (by decide) ?_
    refine WL.eff (wanted_plain (by rfl)) (eff_append (by rfl) (by rfl) (by exact elem42) (by exact Try.underlying42) (by repeat (first | exact SelL.nil | exact SelL.self | apply SelL.cons | exact Sel.here | apply Sel.there | apply SelL.skip)) (by omega) (by omega)) (by rfl) (by decide) ?_
    rintro ⟨ad7, cap7⟩ -
    try dsimp only
    refine WL.yld (wanted_plain (by rfl)) (yld_assign (by rfl)) (by rfl) (by decide) ?_
    refine WL.done ?_
    refine WK.ret ?_
    repeat (first | refine RQ.block ?_ | refine RQ.then_ ?_)
    refine RQ.body (results1 (by rfl) (by rfl)) (fun w s => ?_)
    exact ⟨(ad7, 0 + len, cap7), Nat.zero_add _, rfl, s⟩
set_option maxRecDepth 20000 in
set_option maxHeartbeats 1000000 in
theorem copy_spec (q : Nat) (e : EndM) (he : e.held = []) (hw : e.waiting.length ≤ 1000) :
    Triple Try.prog 26 #[.pointer (some ⟨q, 0, none⟩)] [endR q e] (Nat) (fun _ => True) (fun r => .pointer (some ⟨r, 0, none⟩)) (fun r => [endR r e, endR q e]) := by
  refine Triple.endOpen ?_
  rintro ⟨wad, wlen, wcap, wvs, mb, mm⟩ hmm
  dsimp only [endL] at hmm ⊢
  obtain rfl : mm = [] := by simpa [he] using hmm
  clear hmm
  refine Triple.of_body (args := [.pointer (some ⟨q, 0, none⟩)]) Try.func26 rfl Try.ntmps26 (by simp) (fun g F => ?_)
  dsimp only [numb, List.cons_append, List.nil_append]
  refine WK.know (fun w s => And.intro (Sat.slLen (s.sel1 (.there .here))) (Sat.allLen (s.sel1 (.there (.there .here))))) (fun hlen => ?_)
  obtain ⟨⟨hlen1, hlen3, -⟩, hlen2⟩ := hlen
  simp only [Nat.mul_one] at hlen1
  refine WK.seq ?_
  refine WK.region ?_
  refine WL.yld (wanted_plain (by rfl)) (yld_assign (by rfl)) (by rfl) (by decide) ?_
  refine WL.done ?_
  refine WK.seq ?_
  refine WK.region ?_
  refine WL.yld (wanted_plain (by rfl)) (yld_move (by rfl)) (by rfl) (by decide) ?_
  refine WL.yld (wanted_plain (by rfl)) (yld_nilCheck (by rfl)) (by rfl) (by decide) ?_
  refine WL.yld (wanted_plain (by rfl)) (yld_loadA (by rfl) (by exact Try.isAgg85) (by exact Try.sizeOf85) (by repeat (first | exact .here | apply Sel.there)) (by repeat (first | exact Cells.nil | apply Cells.cons | rfl))) (by rfl) (by decide) ?_
  refine WL.eff (wanted_plain (by rfl)) (eff_alloc (by exact Try.zeroValue85) (by rfl)) (by rfl) (by decide) ?_
  rintro b3 -
  try dsimp only
  refine WL.eff0 (wanted_plain (by rfl)) (eff_store (by rfl) (by rfl) (by exact Try.sizeOf85) (by rfl) (by rfl) (by rfl) (by repeat (first | exact .here | apply Sel.there)) (by repeat (first | exact SetAts.nil | apply SetAts.cons | exact SetAt.here | apply SetAt.there))) (by rfl) ?_
  rintro _ -
  try dsimp only
  refine WL.done ?_
  refine WK.seq ?_
  refine WK.region ?_
  refine WL.yld (wanted_plain (by rfl)) (yld_move (by rfl)) (by rfl) (by decide) ?_
  refine WL.yld (wanted_plain (by rfl)) (yld_nilCheck (by rfl)) (by rfl) (by decide) ?_
  refine WL.yld (wanted_plain (by rfl)) (yld_fieldAddr (by rfl) (by exact Try.runUnderlying85) (by rfl) (by exact Try.sizeOf42) (by rfl) (by rfl)) (by rfl) (by decide) ?_
  refine WL.yld (wanted_plain (by rfl)) (yld_load (by rfl) (by exact Try.isAgg42) (by repeat (first | exact .here | apply Sel.there)) (by rfl)) (by rfl) (by decide) ?_
  refine WL.eff (wanted_plain (by rfl)) (eff_call (by exact Try.call47) (by repeat (first | exact Evs.nil | apply Evs.cons | rfl)) (by repeat (first | exact SelL.nil | exact SelL.self | apply SelL.cons | exact Sel.here | apply Sel.there | apply SelL.skip)) (clone2_spec true wad wlen wcap wvs (by omega))) (by rfl) (by decide) ?_
  rintro ⟨ad13, len13, cap13⟩ hl13
  dsimp only at hl13
  subst hl13
  try dsimp only
  refine WL.yld (wanted_plain (by rfl)) (yld_fieldAddr (by rfl) (by exact Try.runUnderlying85) (by rfl) (by exact Try.sizeOf42) (by rfl) (by rfl)) (by rfl) (by decide) ?_
  refine WL.eff0 (wanted_plain (by rfl)) (eff_store (by rfl) (by rfl) (by exact Try.sizeOf42) (by rfl) (by rfl) (by rfl) (by repeat (first | exact .here | apply Sel.there)) (by repeat (first | exact SetAts.nil | apply SetAts.cons | exact SetAt.here | apply SetAt.there))) (by rfl) ?_
  rintro _ -
  try dsimp only
  refine WL.done ?_
  refine WK.seq ?_
  refine WK.region ?_
  refine WL.eff (wanted_plain (by rfl)) (eff_makeMap) (by rfl) (by decide) ?_
  rintro b15 -
  try dsimp only
  refine WL.sat (fun w s => Sat.mapNew (s.sel1 (A := mapO true b15 [] 0) (by repeat (first | exact .here | apply Sel.there)))) ?_
  refine WL.yld (wanted_plain (by rfl)) (yld_fieldAddr (by rfl) (by exact Try.runUnderlying85) (by rfl) (by exact Try.sizeOf83) (by rfl) (by rfl)) (by rfl) (by decide) ?_
  refine WL.eff0 (wanted_plain (by rfl)) (eff_store (by rfl) (by rfl) (by exact Try.sizeOf83) (by rfl) (by rfl) (by rfl) (by repeat (first | exact .here | apply Sel.there)) (by repeat (first | exact SetAts.nil | apply SetAts.cons | exact SetAt.here | apply SetAt.there))) (by rfl) ?_
  rintro _ -
  try dsimp only
  refine WL.done ?_
  refine WK.seq ?_
  refine WK.seq ?_
  refine WK.region ?_
  refine WL.yld (wanted_plain (by rfl)) (yld_move (by rfl)) (by rfl) (by decide) ?_
  refine WL.yld (wanted_plain (by rfl)) (yld_nilCheck (by rfl)) (by rfl) (by decide) ?_
  refine WL.yld (wanted_plain (by rfl)) (yld_fieldAddr (by rfl) (by exact Try.runUnderlying85) (by rfl) (by exact Try.sizeOf83) (by rfl) (by rfl)) (by rfl) (by decide) ?_
  refine WL.yld (wanted_plain (by rfl)) (yld_load (by rfl) (by exact Try.isAgg83) (by repeat (first | exact .here | apply Sel.there)) (by rfl)) (by rfl) (by decide) ?_
  refine WL.eff (wanted_plain (by rfl)) (eff_range (by rfl) (by exact Try.runUnderlying83) (by repeat (first | exact .here | apply Sel.there))) (by rfl) (by decide) ?_
  rintro it21 -
  try dsimp only
  refine WL.done ?_
  refine WK.block ?_
  refine WK.loop (ι := Unit) (fun _ => True) (fun _ => [(3, .pointer (some ⟨b3, 0, none⟩)), (21, .pointer (some ⟨it21, 0, none⟩))]) (fun _ => rangeI true mb it21 [] [] none :: row true q 85 [.int .i64 e.window, .slice wad len13 wcap, .int .i64 e.acked, .int .i64 e.delivered, .map (some mb), .bool e.owing] :: mapI true b15 [] :: row true b3 85 [.int .i64 e.window, .slice ad13 len13 cap13, .int .i64 e.acked, .int .i64 e.delivered, .map (some b15), .bool e.owing] :: sl true 31 1 ad13 len13 cap13 wvs :: sl true 31 1 wad len13 wcap wvs :: allR (byt 5 false) wvs e.waiting :: allR (byt 5 false) [] (e.held.map (·.2)) :: F) (fun _ => 0) (()) (trivial) (by repeat (first | exact KK.nil | refine KK.cons (by first | rfl | (simp; done)) ?_)) (by repeat (first | exact SelL.nil | exact SelL.self | apply SelL.cons | exact Sel.here | apply Sel.there | apply SelL.skip)) ?_
  rintro _ - N hN
  refine WK.seq ?_
  refine WK.region ?_
  refine WL.eff (wanted_plain (by rfl)) (eff_next (by rfl) (by repeat (first | exact .here | apply Sel.there))) (by rfl) (by decide) ?_
  rintro x22 hx22
  obtain rfl : x22 = none := by
    rcases x22 with _ | ⟨i, k, v⟩
    · rfl
    · simp at hx22
  try dsimp only
  refine WL.yld (wanted_plain (by rfl)) (yld_extract (by rfl) (by rfl)) (by rfl) (by decide) ?_
  refine WL.done ?_
  refine WK.seq ?_
  refine WK.cond (by rfl) (fun h => by cases h) (fun _ => ?_)
  refine WK.exit ?_
  repeat (first | refine XQ.then_ ?_ | refine XQ.block (by rfl) ?_)
  refine XQ.here ?_
  refine WK.seq ?_
  refine WK.region ?_
  refine WL.yld (wanted_plain (by rfl)) (yld_assign (by rfl)) (by rfl) (by decide) ?_
  refine WL.done ?_
  refine WK.ret ?_
  repeat (first | refine RQ.block ?_ | refine RQ.then_ ?_)
  refine RQ.body (results1 (by rfl) (by rfl)) (fun w s => ?_)
  refine ⟨b3, trivial, rfl, ?_⟩
  have s1 := ((s.sel1 (A := rangeI true mb it21 [] [] none) (by repeat (first | exact .here | apply Sel.there))).rangeEnd.sel1 (A := allR (byt 5 false) wvs e.waiting) (by repeat (first | exact .here | apply Sel.there))).dup (dup_all (dup_byt 5) _ _)
  have s2 : Sat g w (endL b3 e ⟨ad13, len13, cap13, wvs, b15, []⟩ ++ (endL q e ⟨wad, len13, wcap, wvs, mb, []⟩ ++ F)) := by
    dsimp only [endL, List.cons_append, List.nil_append]
    rw [he] at s1 ⊢
    have s3 := s1.allNil (Rl := byt 5 false)
    exact s3.toCs (by repeat (first | exact SelL.nil | exact SelL.self | apply SelL.cons | exact Sel.here | apply Sel.there | apply SelL.skip))
  have s4 := Sat.endShut ⟨ad13, len13, cap13, wvs, b15, []⟩ (by simp [he]) s2
  exact (Sat.endShut ⟨wad, len13, wcap, wvs, mb, []⟩ (by simp [he]) (s4.perm List.perm_middle.symm)).perm (.swap _ _ _)
set_option maxRecDepth 20000 in
set_option maxHeartbeats 4000000 in
theorem copies_spec (window many cut : Int) (hw : -9223372036854775808 ≤ window ∧ window ≤ 9223372036854775807) (hm : -9223372036854775808 ≤ many ∧ many ≤ 9223372036854775807) (hcut : -9223372036854775808 ≤ cut ∧ cut ≤ 9223372036854775807) :
    Triple Try.prog 7 #[.int .i64 window, .int .i64 many, .int .i64 cut] [] (Unit) (fun _ => True) (fun _ => .bool true) (fun _ => []) := by
  refine Triple.of_body (args := [.int .i64 window, .int .i64 many, .int .i64 cut]) Try.func7 rfl Try.ntmps7 (by simp) (fun g F => ?_)
  dsimp only [numb, List.cons_append, List.nil_append]
  have hW0 := aroundM_range window 16 (by omega)
  refine WK.seq ?_
  refine WK.region ?_
  refine WL.yld (wanted_plain (by rfl)) (yld_assign (by rfl)) (by rfl) (by decide) ?_
  refine WL.done ?_
  refine WK.seq ?_
  refine WK.region ?_
  refine WL.yld (wanted_plain (by rfl)) (yld_move (by rfl)) (by rfl) (by decide) ?_
  refine WL.eff (wanted_plain (by rfl)) (eff_call (by exact Try.call10) (by repeat (first | exact Evs.nil | apply Evs.cons | rfl)) (by repeat (first | exact SelL.nil | exact SelL.self | apply SelL.cons | exact Sel.here | apply Sel.there | apply SelL.skip)) (ends_spec window hw)) (by rfl) (by decide) ?_
  rintro ⟨eb, q0, q1⟩ -
  try dsimp only
  refine WL.yld (wanted_plain (by rfl)) (yld_assign (by rfl)) (by rfl) (by decide) ?_
  refine WL.done ?_
  refine WK.seq ?_
  refine WK.seq ?_
  refine WK.region ?_
  refine WL.yld (wanted_plain (by rfl)) (yld_move (by rfl)) (by rfl) (by decide) ?_
  refine WL.yld (wanted_plain (by rfl)) (yld_eqlNilS (by rfl) (by rfl) (by exact Try.runUnderlying23)) (by rfl) (by decide) ?_
  refine WL.done ?_
  refine WK.cond (by rfl) (fun hc19 => ?_) (fun hc19 => ?_)
  · skip
    first | omega | exact absurd rfl hc19 | (simp at hc19; done) | (exact absurd hc19 (by decide))
  · skip
    refine WK.skip ?_
    refine WK.seq ?_
    refine WK.region ?_
    refine WL.yld (wanted_plain (by rfl)) (yld_move (by rfl)) (by rfl) (by decide) ?_
    refine WL.eff (wanted_plain (by rfl)) (eff_call (by exact Try.call12) (by repeat (first | exact Evs.nil | apply Evs.cons | rfl)) (by repeat (first | exact SelL.nil | exact SelL.self | apply SelL.cons | exact Sel.here | apply Sel.there | apply SelL.skip)) (around_spec many 12 hm (by omega))) (by rfl) (by decide) ?_
    rintro _ -
    have h21 := aroundM_range many 12 (by omega)
    obtain ⟨N, hN⟩ : ∃ N : Nat, aroundM many 12 = (N : Int) := ⟨(aroundM many 12).toNat, by omega⟩
    rw [hN] at h21 ⊢
    try dsimp only
    refine WL.yld (wanted_plain (by rfl)) (yld_assign (by rfl)) (by rfl) (by decide) ?_
    refine WL.done ?_
    refine WK.seq ?_
    refine WK.region ?_
    refine WL.eff (wanted_plain (by rfl)) (eff_mkSlice1 (by rfl) (by rfl) (by exact Try.runUnderlying31) (by exact Try.sizeOf5) (by exact Try.zeroValue5) (by rfl) (by rfl) (by decide) (by rfl)) (by rfl) (by decide) ?_
    rintro b22 -
    try dsimp only
    refine WL.yld (wanted_plain (by rfl)) (yld_assign (by rfl)) (by rfl) (by decide) ?_
    refine WL.done ?_
    refine WK.seq ?_
    refine WK.region ?_
    refine WL.yld (wanted_plain (by rfl)) (yld_assign (by rfl)) (by rfl) (by decide) ?_
    refine WL.done ?_
    refine WK.seq ?_
    refine WK.seq ?_
    refine WK.region ?_
    refine WL.yld (wanted_plain (by rfl)) (yld_assign (by rfl)) (by rfl) (by decide) ?_
    refine WL.done ?_
    refine WK.block ?_
    rw [newPE (1 + aroundM window 16)]
    refine WK.loop (ι := Nat × Option Nat × Value) (fun p => p.1 ≤ N ∧ cI N (aroundM cut N) p.1 p.2.1) (fun p => [(2, .int .i64 cut), (7, .slice (some ⟨eb, 0, none⟩) 2 2), (8, .int .i64 (N : Int)), (9, .slice (some ⟨b22, 0, none⟩) 1 1), (10, .pointer (p.2.1.map fun q => ⟨q, 0, none⟩)), (11, .int .i64 (p.1 : Int))]) (fun p => cL p.2.1 (1 + aroundM window 16) p.1 ++ (endR q0 (PE (1 + aroundM window 16) p.1 ⟨0, 0, false⟩) :: sl true 33 1 (some ⟨eb, 0, none⟩) 2 2 [.pointer (some ⟨q0, 0, none⟩), .pointer (some ⟨q1, 0, none⟩)] :: sl true 5 1 (some ⟨b22, 0, none⟩) 1 1 [p.2.2] :: F)) (fun p => N - p.1) ((0, none, .int .u8 0)) (⟨Nat.zero_le _, by
  show N = 0 ∨ ((0 : Nat) : Int) ≤ aroundM cut N
  by_cases h : N = 0
  · exact .inl h
  · exact .inr (by have := aroundM_range cut N (by omega); omega)⟩) (by repeat (first | exact KK.nil | refine KK.cons (by first | rfl | (simp; done)) ?_)) (by (try dsimp only [cL, Option.map_none, Option.map_some, List.cons_append, List.nil_append]); exact (by repeat (first | exact SelL.nil | exact SelL.self | apply SelL.cons | exact Sel.here | apply Sel.there | apply SelL.skip))) ?_
    rintro ⟨i, q, v⟩ ⟨hi, hq⟩ M hM
    dsimp only at hi hq ⊢
    refine WK.seq ?_
    refine WK.seq ?_
    refine WK.region ?_
    rcases q with _ | q2
    · skip
      replace hq : N = 0 ∨ (i : Int) ≤ aroundM cut N := hq
      dsimp only [cL, Option.map_none, Option.map_some, List.cons_append, List.nil_append]
      refine WL.yld (wanted_plain (by rfl)) (yld_move (by rfl)) (by rfl) (by decide) ?_
      refine WL.yld (wanted_plain (by rfl)) (yld_move (by rfl)) (by rfl) (by decide) ?_
      refine WL.yld (wanted_plain (by rfl)) (yld_lss (by rfl) (by rfl)) (by rfl) (by decide) ?_
      refine WL.done ?_
      refine WK.cond (by rfl) (fun hc25 => ?_) (fun hc25 => ?_)
      · skip
        have hc25 := of_decide_eq_true hc25
        have hc1 := aroundM_range cut N (by omega)
        refine WK.skip ?_
        refine WK.seq ?_
        refine WK.block ?_
        refine WK.seq ?_
        refine WK.seq ?_
        refine WK.region ?_
        refine WL.yld (wanted_plain (by rfl)) (yld_move (by rfl)) (by rfl) (by decide) ?_
        refine WL.yld (wanted_plain (by rfl)) (yld_move (by rfl)) (by rfl) (by decide) ?_
        refine WL.yld (wanted_plain (by rfl)) (yld_move (by rfl)) (by rfl) (by decide) ?_
        refine WL.eff (wanted_plain (by rfl)) (eff_call (by exact Try.call12) (by repeat (first | exact Evs.nil | apply Evs.cons | rfl)) (by repeat (first | exact SelL.nil | exact SelL.self | apply SelL.cons | exact Sel.here | apply Sel.there | apply SelL.skip)) (around_spec cut N hcut (by omega))) (by rfl) (by decide) ?_
        rintro _ -
        try dsimp only
        refine WL.yld (wanted_plain (by rfl)) (yld_eql (by rfl) (by rfl)) (by rfl) (by decide) ?_
        refine WL.done ?_
        refine WK.cond (by rfl) (fun hc32 => ?_) (fun hc32 => ?_)
        · skip
          have hc32 := of_decide_eq_true hc32
          refine WK.region ?_
          refine WL.yld (wanted_plain (by rfl)) (yld_move (by rfl)) (by rfl) (by decide) ?_
          refine WL.yld (wanted_plain (by rfl)) (yld_indexAddrS (by rfl) (by rfl) (by exact Try.runUnderlying23) (by exact Try.sizeOf33) (by repeat (first | exact .here | apply Sel.there)) (0) (by first | rfl | omega) (by omega) (by omega) (by exact Nat.mul_one _)) (by rfl) (by decide) ?_
          refine WL.yld (wanted_plain (by rfl)) (yld_loadS (by rfl) (by exact Try.isAgg33) (by repeat (first | exact .here | apply Sel.there)) (by first | rfl | assumption | (simp; done) | (simp [*]; done))) (by rfl) (by decide) ?_
          refine WL.eff (wanted_plain (by rfl)) (eff_call (by exact Try.call26) (by repeat (first | exact Evs.nil | apply Evs.cons | rfl)) (by repeat (first | exact SelL.nil | exact SelL.self | apply SelL.cons | exact Sel.here | apply Sel.there | apply SelL.skip)) (copy_spec q0 (PE (1 + aroundM window 16) i ⟨0, 0, false⟩) rfl (by rw [show (PE (1 + aroundM window 16) i ⟨0, 0, false⟩).waiting.length = i - 0 from msgs_len _ _]; omega))) (by rfl) (by decide) ?_
          rintro q2 -
          try dsimp only
          refine WL.yld (wanted_plain (by rfl)) (yld_assign (by rfl)) (by rfl) (by decide) ?_
          refine WL.done ?_
          refine WK.seq ?_
          refine WK.region ?_
          refine WL.yld (wanted_plain (by rfl)) (yld_move (by rfl)) (by rfl) (by decide) ?_
          refine WL.yld (wanted_plain (by rfl)) (yld_move (by rfl)) (by rfl) (by decide) ?_
          refine WL.yld (wanted_plain (by rfl)) (yld_convInt (by rfl) (by exact Try.runUnderlying3) (by exact Try.runUnderlying5) u8wrap) (by rfl) (by decide) ?_
          refine WL.yld (wanted_plain (by rfl)) (yld_indexAddrS (by rfl) (by rfl) (by exact Try.runUnderlying31) (by exact Try.sizeOf5) (by repeat (first | exact .here | apply Sel.there)) (0) (by first | rfl | omega) (by omega) (by omega) (by exact Nat.mul_one _)) (by rfl) (by decide) ?_
          refine WL.eff0 (wanted_plain (by rfl)) (eff_storeS (by rfl) (by rfl) (by exact Try.sizeOf5) (by rfl) (by rfl) (by rfl) (by simp) (by repeat (first | exact .here | apply Sel.there)) (by repeat (first | exact SetAts.nil | apply SetAts.cons | exact SetAt.here | apply SetAt.there))) (by rfl) ?_
          rintro _ -
          try dsimp only
          refine WL.done ?_
          refine WK.seq ?_
          refine WK.region ?_
          refine WL.yld (wanted_plain (by rfl)) (yld_move (by rfl)) (by rfl) (by decide) ?_
          refine WL.yld (wanted_plain (by rfl)) (yld_indexAddrS (by rfl) (by rfl) (by exact Try.runUnderlying23) (by exact Try.sizeOf33) (by repeat (first | exact .here | apply Sel.there)) (0) (by first | rfl | omega) (by omega) (by omega) (by exact Nat.mul_one _)) (by rfl) (by decide) ?_
          refine WL.yld (wanted_plain (by rfl)) (yld_loadS (by rfl) (by exact Try.isAgg33) (by repeat (first | exact .here | apply Sel.there)) (by first | rfl | assumption | (simp; done) | (simp [*]; done))) (by rfl) (by decide) ?_
          refine WL.yld (wanted_plain (by rfl)) (yld_move (by rfl)) (by rfl) (by decide) ?_
          refine WL.eff (wanted_plain (by rfl)) (eff_call (by exact Try.call13) (by repeat (first | exact Evs.nil | apply Evs.cons | rfl)) (by repeat (first | exact SelL.nil | exact SelL.self | apply SelL.cons | exact Sel.here | apply Sel.there | apply SelL.skip)) (send_spec q0 (PE (1 + aroundM window 16) i ⟨0, 0, false⟩) true (some ⟨b22, 0, none⟩) 1 [UInt8.ofNat i] (by simp))) (by rfl) (by decide) ?_
          rintro _ -
          rw [sendPE (by omega)]
          try dsimp only
          refine WL.done ?_
          refine WK.seq ?_
          refine WK.region ?_
          refine WL.yld (wanted_plain (by rfl)) (yld_move (by rfl)) (by rfl) (by decide) ?_
          refine WL.yld (wanted_plain (by rfl)) (yld_neqPtr (by rfl) (by rfl) (by exact Try.runUnderlying33)) (by rfl) (by decide) ?_
          refine WL.done ?_
          refine WK.cond (by rfl) (fun _ => ?_) (fun h => by cases h)
          refine WK.region ?_
          refine WL.yld (wanted_plain (by rfl)) (yld_move (by rfl)) (by rfl) (by decide) ?_
          refine WL.yld (wanted_plain (by rfl)) (yld_move (by rfl)) (by rfl) (by decide) ?_
          refine WL.eff (wanted_plain (by rfl)) (eff_call (by exact Try.call13) (by repeat (first | exact Evs.nil | apply Evs.cons | rfl)) (by repeat (first | exact SelL.nil | exact SelL.self | apply SelL.cons | exact Sel.here | apply Sel.there | apply SelL.skip)) (send_spec q2 (PE (1 + aroundM window 16) i ⟨0, 0, false⟩) true (some ⟨b22, 0, none⟩) 1 [UInt8.ofNat i] (by simp))) (by rfl) (by decide) ?_
          rintro _ -
          rw [sendPE (by omega)]
          try dsimp only
          refine WL.done ?_
          refine WK.endBlock ?_
          refine WK.region ?_
          refine WL.yld (wanted_plain (by rfl)) (yld_move (by rfl)) (by rfl) (by decide) ?_
          refine WL.yld (wanted_plain (by rfl)) (yld_add (by rfl) (by rfl) (by first | exact w64 (by omega) (by omega) | rfl)) (by rfl) (by decide) ?_
          refine WL.yld (wanted_plain (by rfl)) (yld_assign (by rfl)) (by rfl) (by decide) ?_
          refine WL.done ?_
          exact WK.next hM (i + 1, some q2, .int .u8 ((UInt8.ofNat i).toNat : Int)) ⟨by dsimp only; omega, (show aroundM cut N < ((i + 1 : Nat) : Int) from by omega)⟩ (by dsimp only; omega) (by repeat (first | exact KK.nil | refine KK.cons (by first | rfl | (simp; done)) ?_)) (by (try dsimp only [cL, Option.map_none, Option.map_some, List.cons_append, List.nil_append]); exact (by repeat (first | exact SelL.nil | exact SelL.self | apply SelL.cons | exact Sel.here | apply Sel.there | apply SelL.skip)))
        · skip
          have hc32 := of_decide_eq_false hc32
          refine WK.skip ?_
          refine WK.seq ?_
          refine WK.region ?_
          refine WL.yld (wanted_plain (by rfl)) (yld_move (by rfl)) (by rfl) (by decide) ?_
          refine WL.yld (wanted_plain (by rfl)) (yld_move (by rfl)) (by rfl) (by decide) ?_
          refine WL.yld (wanted_plain (by rfl)) (yld_convInt (by rfl) (by exact Try.runUnderlying3) (by exact Try.runUnderlying5) u8wrap) (by rfl) (by decide) ?_
          refine WL.yld (wanted_plain (by rfl)) (yld_indexAddrS (by rfl) (by rfl) (by exact Try.runUnderlying31) (by exact Try.sizeOf5) (by repeat (first | exact .here | apply Sel.there)) (0) (by first | rfl | omega) (by omega) (by omega) (by exact Nat.mul_one _)) (by rfl) (by decide) ?_
          refine WL.eff0 (wanted_plain (by rfl)) (eff_storeS (by rfl) (by rfl) (by exact Try.sizeOf5) (by rfl) (by rfl) (by rfl) (by simp) (by repeat (first | exact .here | apply Sel.there)) (by repeat (first | exact SetAts.nil | apply SetAts.cons | exact SetAt.here | apply SetAt.there))) (by rfl) ?_
          rintro _ -
          try dsimp only
          refine WL.done ?_
          refine WK.seq ?_
          refine WK.region ?_
          refine WL.yld (wanted_plain (by rfl)) (yld_move (by rfl)) (by rfl) (by decide) ?_
          refine WL.yld (wanted_plain (by rfl)) (yld_indexAddrS (by rfl) (by rfl) (by exact Try.runUnderlying23) (by exact Try.sizeOf33) (by repeat (first | exact .here | apply Sel.there)) (0) (by first | rfl | omega) (by omega) (by omega) (by exact Nat.mul_one _)) (by rfl) (by decide) ?_
          refine WL.yld (wanted_plain (by rfl)) (yld_loadS (by rfl) (by exact Try.isAgg33) (by repeat (first | exact .here | apply Sel.there)) (by first | rfl | assumption | (simp; done) | (simp [*]; done))) (by rfl) (by decide) ?_
          refine WL.yld (wanted_plain (by rfl)) (yld_move (by rfl)) (by rfl) (by decide) ?_
          refine WL.eff (wanted_plain (by rfl)) (eff_call (by exact Try.call13) (by repeat (first | exact Evs.nil | apply Evs.cons | rfl)) (by repeat (first | exact SelL.nil | exact SelL.self | apply SelL.cons | exact Sel.here | apply Sel.there | apply SelL.skip)) (send_spec q0 (PE (1 + aroundM window 16) i ⟨0, 0, false⟩) true (some ⟨b22, 0, none⟩) 1 [UInt8.ofNat i] (by simp))) (by rfl) (by decide) ?_
          rintro _ -
          rw [sendPE (by omega)]
          try dsimp only
          refine WL.done ?_
          refine WK.seq ?_
          refine WK.region ?_
          refine WL.yld (wanted_plain (by rfl)) (yld_move (by rfl)) (by rfl) (by decide) ?_
          refine WL.yld (wanted_plain (by rfl)) (yld_neqPtr0 (by rfl) (by rfl) (by exact Try.runUnderlying33)) (by rfl) (by decide) ?_
          refine WL.done ?_
          refine WK.cond (by rfl) (fun h => by cases h) (fun _ => ?_)
          refine WK.skip ?_
          refine WK.endBlock ?_
          refine WK.region ?_
          refine WL.yld (wanted_plain (by rfl)) (yld_move (by rfl)) (by rfl) (by decide) ?_
          refine WL.yld (wanted_plain (by rfl)) (yld_add (by rfl) (by rfl) (by first | exact w64 (by omega) (by omega) | rfl)) (by rfl) (by decide) ?_
          refine WL.yld (wanted_plain (by rfl)) (yld_assign (by rfl)) (by rfl) (by decide) ?_
          refine WL.done ?_
          exact WK.next hM (i + 1, none, .int .u8 ((UInt8.ofNat i).toNat : Int)) ⟨by dsimp only; omega, (show N = 0 ∨ ((i + 1 : Nat) : Int) ≤ aroundM cut N from .inr (by omega))⟩ (by dsimp only; omega) (by repeat (first | exact KK.nil | refine KK.cons (by first | rfl | (simp; done)) ?_)) (by (try dsimp only [cL, Option.map_none, Option.map_some, List.cons_append, List.nil_append]); exact (by repeat (first | exact SelL.nil | exact SelL.self | apply SelL.cons | exact Sel.here | apply Sel.there | apply SelL.skip)))
      · skip
        have hc25 := of_decide_eq_false hc25
        have hN0 : N = 0 := by
          rcases hq with hq | hq
          · exact hq
          · exact Classical.byContradiction fun h => by have hc1 := aroundM_range cut N (by omega); omega
        obtain rfl : N = i := by omega
        refine WK.exit ?_
        repeat (first | refine XQ.then_ ?_ | refine XQ.block (by rfl) ?_)
        refine XQ.here ?_
        refine WK.seq ?_
        refine WK.region ?_
        refine WL.yld (wanted_plain (by rfl)) (yld_move (by rfl)) (by rfl) (by decide) ?_
        refine WL.yld (wanted_plain (by rfl)) (yld_indexAddrS (by rfl) (by rfl) (by exact Try.runUnderlying23) (by exact Try.sizeOf33) (by repeat (first | exact .here | apply Sel.there)) (0) (by first | rfl | omega) (by omega) (by omega) (by exact Nat.mul_one _)) (by rfl) (by decide) ?_
        refine WL.yld (wanted_plain (by rfl)) (yld_loadS (by rfl) (by exact Try.isAgg33) (by repeat (first | exact .here | apply Sel.there)) (by first | rfl | assumption | (simp; done) | (simp [*]; done))) (by rfl) (by decide) ?_
        refine WL.eff (wanted_plain (by rfl)) (eff_call (by exact Try.call15) (by repeat (first | exact Evs.nil | apply Evs.cons | rfl)) (by repeat (first | exact SelL.nil | exact SelL.self | apply SelL.cons | exact Sel.here | apply Sel.there | apply SelL.skip)) (out_spec q0 (PE (1 + aroundM window 16) N ⟨0, 0, false⟩) (PE_ok (by omega) (by omega) (by simp) (by simp)))) (by rfl) (by decide) ?_
        rintro ⟨ad54, len54, cap54, vs54⟩ ⟨hl54, hv54⟩
        rw [outPE] at hl54 ⊢
        dsimp only at hl54 hv54 ⊢
        rw [pkL_len, np0] at hl54
        have hnp := np0 (1 + aroundM window 16) N
        have hn : nm (1 + aroundM window 16) N ⟨0, 0, false⟩ ≤ 16 := by unfold nm; omega
        generalize hnn : nm (1 + aroundM window 16) N ⟨0, 0, false⟩ = n at hl54 hnp hn ⊢
        try dsimp only
        refine WL.yld (wanted_plain (by rfl)) (yld_assign (by rfl)) (by rfl) (by decide) ?_
        refine WL.done ?_
        refine WK.seq ?_
        refine WK.seq ?_
        refine WK.region ?_
        refine WL.yld (wanted_plain (by rfl)) (yld_assign (by rfl)) (by rfl) (by decide) ?_
        refine WL.done ?_
        refine WK.block ?_
        refine WK.loop (ι := Nat) (fun j => j ≤ len54) (fun j => [(2, .int .i64 cut), (7, .slice (some ⟨eb, 0, none⟩) 2 2), (8, .int .i64 (N : Int)), (10, .pointer none), (12, .slice ad54 len54 cap54), (13, .int .i64 (j : Int))]) (fun j => allR (byt 5 true) (vs54.drop j) (((pkL n ⟨0, 0, false⟩).map (·.b)).drop j) :: endR q0 (PE (1 + aroundM window 16) N ⟨0, 0, false⟩) :: sl true 33 1 (some ⟨eb, 0, none⟩) 2 2 [.pointer (some ⟨q0, 0, none⟩), .pointer (some ⟨q1, 0, none⟩)] :: sl true 44 3 ad54 len54 cap54 (pktC (pkL n ⟨0, 0, false⟩) vs54) :: F) (fun j => len54 - j) (0) (Nat.zero_le _) (by repeat (first | exact KK.nil | refine KK.cons (by first | rfl | (simp; done)) ?_)) (by repeat (first | exact SelL.nil | exact SelL.self | apply SelL.cons | exact Sel.here | apply Sel.there | apply SelL.skip)) ?_
        rintro j hj M2 hM2
        refine WK.seq ?_
        refine WK.seq ?_
        refine WK.region ?_
        refine WL.yld (wanted_plain (by rfl)) (yld_move (by rfl)) (by rfl) (by decide) ?_
        refine WL.yld (wanted_plain (by rfl)) (yld_move (by rfl)) (by rfl) (by decide) ?_
        refine WL.yld (wanted_plain (by rfl)) (yld_len (by rfl) (by exact Try.runUnderlying35)) (by rfl) (by decide) ?_
        refine WL.yld (wanted_plain (by rfl)) (yld_lss (by rfl) (by rfl)) (by rfl) (by decide) ?_
        refine WL.done ?_
        refine WK.cond (by rfl) (fun hc58 => ?_) (fun hc58 => ?_)
        · skip
          have hc58 := of_decide_eq_true hc58
          refine WK.skip ?_
          refine WK.seq ?_
          refine WK.block ?_
          refine WK.seq ?_
          refine WK.seq ?_
          have hp : (pkL n ⟨0, 0, false⟩)[j]? = some ⟨(j : Int) + 1, 0, [UInt8.ofNat j]⟩ := by rw [pkL_get (by omega), pk0 (by omega)]
          refine WK.openS (fun w s => Sat.bytHead (bs := [UInt8.ofNat j]) (by rw [List.length_map, pkL_len]; omega) (by rw [List.getElem?_map, hp]; rfl) (s.sel1 (A := allR (byt 5 true) (vs54.drop j) (((pkL n ⟨0, 0, false⟩).map (·.b)).drop j)) (by repeat (first | exact .here | apply Sel.there)))) ?_
          rintro ⟨ad7, len7, cap7⟩ ⟨hv7, hl7⟩
          dsimp only at hv7 hl7
          subst hl7
          try dsimp only [List.cons_append, List.nil_append]
          refine WK.region ?_
          refine WL.yld (wanted_plain (by rfl)) (yld_move (by rfl)) (by rfl) (by decide) ?_
          refine WL.yld (wanted_plain (by rfl)) (yld_move (by rfl)) (by rfl) (by decide) ?_
          refine WL.yld (wanted_plain (by rfl)) (yld_indexAddrS (by rfl) (by rfl) (by exact Try.runUnderlying35) (by exact Try.sizeOf44) (by repeat (first | exact .here | apply Sel.there)) (j) (by first | rfl | omega) (by omega) (by omega) (by rfl)) (by rfl) (by decide) ?_
          refine WL.yld (wanted_plain (by rfl)) (yld_fieldAddrS (by rfl) (by exact Try.runUnderlying44) (by rfl) (by exact Try.sizeOf31) (by rfl) (by rfl)) (by rfl) (by decide) ?_
          refine WL.yld (wanted_plain (by rfl)) (yld_loadS (by rfl) (by exact Try.isAgg31) (by repeat (first | exact .here | apply Sel.there)) (by exact pktC_b (j := j) hp hv7 (by rfl))) (by rfl) (by decide) ?_
          refine WL.yld (wanted_plain (by rfl)) (yld_len (by rfl) (by exact Try.runUnderlying31)) (by rfl) (by decide) ?_
          refine WL.yld (wanted_plain (by rfl)) (yld_neq (by rfl) (by rfl)) (by rfl) (by decide) ?_
          refine WL.yld (wanted_plain (by rfl)) (yld_move (by rfl)) (by rfl) (by decide) ?_
          refine WL.split (d := 68) (by rfl) (fun hc68 => ?_) (fun hc68 => ?_)
          · skip
            have hc68 := of_decide_eq_true hc68
            simp at hc68
          · skip
            have hc68 := of_decide_eq_false hc68
            refine WL.yld (wanted_some (by rfl) (by rfl) (by rfl)) (yld_move (by rfl)) (by rfl) (by decide) ?_
            refine WL.yld (wanted_some (by rfl) (by rfl) (by rfl)) (yld_move (by rfl)) (by rfl) (by decide) ?_
            refine WL.yld (wanted_some (by rfl) (by rfl) (by rfl)) (yld_indexAddrS (by rfl) (by rfl) (by exact Try.runUnderlying35) (by exact Try.sizeOf44) (by repeat (first | exact .here | apply Sel.there)) (j) (by first | rfl | omega) (by omega) (by omega) (by rfl)) (by rfl) (by decide) ?_
            refine WL.yld (wanted_some (by rfl) (by rfl) (by rfl)) (yld_fieldAddrS (by rfl) (by exact Try.runUnderlying44) (by rfl) (by exact Try.sizeOf31) (by rfl) (by rfl)) (by rfl) (by decide) ?_
            refine WL.yld (wanted_some (by rfl) (by rfl) (by rfl)) (yld_loadS (by rfl) (by exact Try.isAgg31) (by repeat (first | exact .here | apply Sel.there)) (by exact pktC_b (j := j) hp hv7 (by rfl))) (by rfl) (by decide) ?_
            refine WL.yld (wanted_some (by rfl) (by rfl) (by rfl)) (yld_indexAddrS (by rfl) (by rfl) (by exact Try.runUnderlying31) (by exact Try.sizeOf5) (by repeat (first | exact .here | apply Sel.there)) (0) (by first | rfl | omega) (by omega) (by omega) (by exact Nat.mul_one _)) (by rfl) (by decide) ?_
            refine WL.yld (wanted_some (by rfl) (by rfl) (by rfl)) (yld_loadS (by rfl) (by exact Try.isAgg5) (by repeat (first | exact .here | apply Sel.there)) (by first | rfl | assumption | (simp; done) | (simp [*]; done))) (by rfl) (by decide) ?_
            refine WL.yld (wanted_some (by rfl) (by rfl) (by rfl)) (yld_convInt (by rfl) (by exact Try.runUnderlying5) (by exact Try.runUnderlying3) (u8back (by omega))) (by rfl) (by decide) ?_
            refine WL.yld (wanted_some (by rfl) (by rfl) (by rfl)) (yld_move (by rfl)) (by rfl) (by decide) ?_
            refine WL.yld (wanted_some (by rfl) (by rfl) (by rfl)) (yld_neq (by rfl) (by rfl)) (by rfl) (by decide) ?_
            refine WL.yld (wanted_plain (by rfl)) (yld_pick_false (by rfl) (by rfl)) (by rfl) (by decide) ?_
            refine WL.done ?_
            refine WK.cond (by rfl) (fun hc79 => ?_) (fun hc79 => ?_)
            · skip
              have hc79 := of_decide_eq_true hc79
              omega
            · skip
              have hc79 := of_decide_eq_false hc79
              refine WK.skip ?_
              refine WK.region ?_
              refine WL.yld (wanted_plain (by rfl)) (yld_move (by rfl)) (by rfl) (by decide) ?_
              refine WL.yld (wanted_plain (by rfl)) (yld_move (by rfl)) (by rfl) (by decide) ?_
              refine WL.yld (wanted_plain (by rfl)) (yld_indexAddrS (by rfl) (by rfl) (by exact Try.runUnderlying35) (by exact Try.sizeOf44) (by repeat (first | exact .here | apply Sel.there)) (j) (by first | rfl | omega) (by omega) (by omega) (by rfl)) (by rfl) (by decide) ?_
              refine WL.yld (wanted_plain (by rfl)) (yld_fieldAddrS (by rfl) (by exact Try.runUnderlying44) (by rfl) (by exact Try.sizeOf31) (by rfl) (by rfl)) (by rfl) (by decide) ?_
              refine WL.yld (wanted_plain (by rfl)) (yld_loadS (by rfl) (by exact Try.isAgg31) (by repeat (first | exact .here | apply Sel.there)) (by exact pktC_b (j := j) hp hv7 (by rfl))) (by rfl) (by decide) ?_
              refine WL.yld (wanted_plain (by rfl)) (yld_indexAddrS (by rfl) (by rfl) (by exact Try.runUnderlying31) (by exact Try.sizeOf5) (by repeat (first | exact .here | apply Sel.there)) (0) (by first | rfl | omega) (by omega) (by omega) (by exact Nat.mul_one _)) (by rfl) (by decide) ?_
              refine WL.eff0 (wanted_plain (by rfl)) (eff_storeS (by rfl) (by rfl) (by exact Try.sizeOf5) (by rfl) (by rfl) (by rfl) (by simp) (by repeat (first | exact .here | apply Sel.there)) (by repeat (first | exact SetAts.nil | apply SetAts.cons | exact SetAt.here | apply SetAt.there))) (by rfl) ?_
              rintro _ -
              try dsimp only
              refine WL.done ?_
              refine WK.endBlock ?_
              refine WK.region ?_
              refine WL.yld (wanted_plain (by rfl)) (yld_move (by rfl)) (by rfl) (by decide) ?_
              refine WL.yld (wanted_plain (by rfl)) (yld_add (by rfl) (by rfl) (by first | exact w64 (by omega) (by omega) | rfl)) (by rfl) (by decide) ?_
              refine WL.yld (wanted_plain (by rfl)) (yld_assign (by rfl)) (by rfl) (by decide) ?_
              refine WL.done ?_
              exact WK.next hM2 (j + 1) (by omega) (by omega) (by repeat (first | exact KK.nil | refine KK.cons (by first | rfl | (simp; done)) ?_)) (by repeat (first | exact SelL.nil | exact SelL.self | apply SelL.cons | exact Sel.here | apply Sel.there | apply SelL.skip))
        · skip
          have hc58 := of_decide_eq_false hc58
          refine WK.exit ?_
          repeat (first | refine XQ.then_ ?_ | refine XQ.block (by rfl) ?_)
          refine XQ.here ?_
          refine WK.seq ?_
          refine WK.seq ?_
          refine WK.region ?_
          refine WL.yld (wanted_plain (by rfl)) (yld_move (by rfl)) (by rfl) (by decide) ?_
          refine WL.yld (wanted_plain (by rfl)) (yld_eqlPtr0 (by rfl) (by rfl) (by exact Try.runUnderlying33)) (by rfl) (by decide) ?_
          refine WL.done ?_
          refine WK.cond (by rfl) (fun _ => ?_) (fun h => by cases h)
          refine WK.seq ?_
          refine WK.region ?_
          refine WL.yld (wanted_plain (by rfl)) (yld_move (by rfl)) (by rfl) (by decide) ?_
          refine WL.yld (wanted_plain (by rfl)) (yld_eql (by rfl) (by rfl)) (by rfl) (by decide) ?_
          refine WL.yld (wanted_plain (by rfl)) (yld_move (by rfl)) (by rfl) (by decide) ?_
          refine WL.split (d := 90) (by rfl) (fun hc90 => ?_) (fun hc90 => ?_)
          · skip
            have hc90 := of_decide_eq_true hc90
            refine WL.eff (wanted_some (by rfl) (by rfl) (by rfl)) (eff_call (by exact Try.call23) (by repeat (first | exact Evs.nil | apply Evs.cons | rfl)) (by repeat (first | exact SelL.nil | exact SelL.self | apply SelL.cons | exact Sel.here | apply Sel.there | apply SelL.skip)) lives_spec) (by rfl) (by decide) ?_
            rintro _ -
            try dsimp only
            refine WL.yld (wanted_plain (by rfl)) (yld_pick_true (by rfl) (by rfl)) (by rfl) (by decide) ?_
            refine WL.yld (wanted_plain (by rfl)) (yld_assign (by rfl)) (by rfl) (by decide) ?_
            refine WL.done ?_
            refine WK.ret ?_
            repeat (first | refine RQ.block ?_ | refine RQ.then_ ?_)
            refine RQ.body (results1 (by rfl) (by rfl)) (fun w s => ?_)
            exact ⟨(), trivial, rfl, s.toCs (by repeat (first | exact SelL.nil | exact SelL.self | apply SelL.cons | exact Sel.here | apply Sel.there | apply SelL.skip))⟩
          · skip
            have hc90 := of_decide_eq_false hc90
            omega
    · skip
      replace hq : aroundM cut N < (i : Int) := hq
      dsimp only [cL, Option.map_none, Option.map_some, List.cons_append, List.nil_append]
      refine WL.yld (wanted_plain (by rfl)) (yld_move (by rfl)) (by rfl) (by decide) ?_
      refine WL.yld (wanted_plain (by rfl)) (yld_move (by rfl)) (by rfl) (by decide) ?_
      refine WL.yld (wanted_plain (by rfl)) (yld_lss (by rfl) (by rfl)) (by rfl) (by decide) ?_
      refine WL.done ?_
      refine WK.cond (by rfl) (fun hc25 => ?_) (fun hc25 => ?_)
      · skip
        have hc25 := of_decide_eq_true hc25
        have hc1 := aroundM_range cut N (by omega)
        refine WK.skip ?_
        refine WK.seq ?_
        refine WK.block ?_
        refine WK.seq ?_
        refine WK.seq ?_
        refine WK.region ?_
        refine WL.yld (wanted_plain (by rfl)) (yld_move (by rfl)) (by rfl) (by decide) ?_
        refine WL.yld (wanted_plain (by rfl)) (yld_move (by rfl)) (by rfl) (by decide) ?_
        refine WL.yld (wanted_plain (by rfl)) (yld_move (by rfl)) (by rfl) (by decide) ?_
        refine WL.eff (wanted_plain (by rfl)) (eff_call (by exact Try.call12) (by repeat (first | exact Evs.nil | apply Evs.cons | rfl)) (by repeat (first | exact SelL.nil | exact SelL.self | apply SelL.cons | exact Sel.here | apply Sel.there | apply SelL.skip)) (around_spec cut N hcut (by omega))) (by rfl) (by decide) ?_
        rintro _ -
        try dsimp only
        refine WL.yld (wanted_plain (by rfl)) (yld_eql (by rfl) (by rfl)) (by rfl) (by decide) ?_
        refine WL.done ?_
        refine WK.cond (by rfl) (fun hc32 => ?_) (fun hc32 => ?_)
        · skip
          have hc32 := of_decide_eq_true hc32
          omega
        · skip
          have hc32 := of_decide_eq_false hc32
          refine WK.skip ?_
          refine WK.seq ?_
          refine WK.region ?_
          refine WL.yld (wanted_plain (by rfl)) (yld_move (by rfl)) (by rfl) (by decide) ?_
          refine WL.yld (wanted_plain (by rfl)) (yld_move (by rfl)) (by rfl) (by decide) ?_
          refine WL.yld (wanted_plain (by rfl)) (yld_convInt (by rfl) (by exact Try.runUnderlying3) (by exact Try.runUnderlying5) u8wrap) (by rfl) (by decide) ?_
          refine WL.yld (wanted_plain (by rfl)) (yld_indexAddrS (by rfl) (by rfl) (by exact Try.runUnderlying31) (by exact Try.sizeOf5) (by repeat (first | exact .here | apply Sel.there)) (0) (by first | rfl | omega) (by omega) (by omega) (by exact Nat.mul_one _)) (by rfl) (by decide) ?_
          refine WL.eff0 (wanted_plain (by rfl)) (eff_storeS (by rfl) (by rfl) (by exact Try.sizeOf5) (by rfl) (by rfl) (by rfl) (by simp) (by repeat (first | exact .here | apply Sel.there)) (by repeat (first | exact SetAts.nil | apply SetAts.cons | exact SetAt.here | apply SetAt.there))) (by rfl) ?_
          rintro _ -
          try dsimp only
          refine WL.done ?_
          refine WK.seq ?_
          refine WK.region ?_
          refine WL.yld (wanted_plain (by rfl)) (yld_move (by rfl)) (by rfl) (by decide) ?_
          refine WL.yld (wanted_plain (by rfl)) (yld_indexAddrS (by rfl) (by rfl) (by exact Try.runUnderlying23) (by exact Try.sizeOf33) (by repeat (first | exact .here | apply Sel.there)) (0) (by first | rfl | omega) (by omega) (by omega) (by exact Nat.mul_one _)) (by rfl) (by decide) ?_
          refine WL.yld (wanted_plain (by rfl)) (yld_loadS (by rfl) (by exact Try.isAgg33) (by repeat (first | exact .here | apply Sel.there)) (by first | rfl | assumption | (simp; done) | (simp [*]; done))) (by rfl) (by decide) ?_
          refine WL.yld (wanted_plain (by rfl)) (yld_move (by rfl)) (by rfl) (by decide) ?_
          refine WL.eff (wanted_plain (by rfl)) (eff_call (by exact Try.call13) (by repeat (first | exact Evs.nil | apply Evs.cons | rfl)) (by repeat (first | exact SelL.nil | exact SelL.self | apply SelL.cons | exact Sel.here | apply Sel.there | apply SelL.skip)) (send_spec q0 (PE (1 + aroundM window 16) i ⟨0, 0, false⟩) true (some ⟨b22, 0, none⟩) 1 [UInt8.ofNat i] (by simp))) (by rfl) (by decide) ?_
          rintro _ -
          rw [sendPE (by omega)]
          try dsimp only
          refine WL.done ?_
          refine WK.seq ?_
          refine WK.region ?_
          refine WL.yld (wanted_plain (by rfl)) (yld_move (by rfl)) (by rfl) (by decide) ?_
          refine WL.yld (wanted_plain (by rfl)) (yld_neqPtr (by rfl) (by rfl) (by exact Try.runUnderlying33)) (by rfl) (by decide) ?_
          refine WL.done ?_
          refine WK.cond (by rfl) (fun _ => ?_) (fun h => by cases h)
          refine WK.region ?_
          refine WL.yld (wanted_plain (by rfl)) (yld_move (by rfl)) (by rfl) (by decide) ?_
          refine WL.yld (wanted_plain (by rfl)) (yld_move (by rfl)) (by rfl) (by decide) ?_
          refine WL.eff (wanted_plain (by rfl)) (eff_call (by exact Try.call13) (by repeat (first | exact Evs.nil | apply Evs.cons | rfl)) (by repeat (first | exact SelL.nil | exact SelL.self | apply SelL.cons | exact Sel.here | apply Sel.there | apply SelL.skip)) (send_spec q2 (PE (1 + aroundM window 16) i ⟨0, 0, false⟩) true (some ⟨b22, 0, none⟩) 1 [UInt8.ofNat i] (by simp))) (by rfl) (by decide) ?_
          rintro _ -
          rw [sendPE (by omega)]
          try dsimp only
          refine WL.done ?_
          refine WK.endBlock ?_
          refine WK.region ?_
          refine WL.yld (wanted_plain (by rfl)) (yld_move (by rfl)) (by rfl) (by decide) ?_
          refine WL.yld (wanted_plain (by rfl)) (yld_add (by rfl) (by rfl) (by first | exact w64 (by omega) (by omega) | rfl)) (by rfl) (by decide) ?_
          refine WL.yld (wanted_plain (by rfl)) (yld_assign (by rfl)) (by rfl) (by decide) ?_
          refine WL.done ?_
          exact WK.next hM (i + 1, some q2, .int .u8 ((UInt8.ofNat i).toNat : Int)) ⟨by dsimp only; omega, (show aroundM cut N < ((i + 1 : Nat) : Int) from by omega)⟩ (by dsimp only; omega) (by repeat (first | exact KK.nil | refine KK.cons (by first | rfl | (simp; done)) ?_)) (by (try dsimp only [cL, Option.map_none, Option.map_some, List.cons_append, List.nil_append]); exact (by repeat (first | exact SelL.nil | exact SelL.self | apply SelL.cons | exact Sel.here | apply Sel.there | apply SelL.skip)))
      · skip
        have hc25 := of_decide_eq_false hc25
        obtain rfl : N = i := by omega
        refine WK.exit ?_
        repeat (first | refine XQ.then_ ?_ | refine XQ.block (by rfl) ?_)
        refine XQ.here ?_
        refine WK.seq ?_
        refine WK.region ?_
        refine WL.yld (wanted_plain (by rfl)) (yld_move (by rfl)) (by rfl) (by decide) ?_
        refine WL.yld (wanted_plain (by rfl)) (yld_indexAddrS (by rfl) (by rfl) (by exact Try.runUnderlying23) (by exact Try.sizeOf33) (by repeat (first | exact .here | apply Sel.there)) (0) (by first | rfl | omega) (by omega) (by omega) (by exact Nat.mul_one _)) (by rfl) (by decide) ?_
        refine WL.yld (wanted_plain (by rfl)) (yld_loadS (by rfl) (by exact Try.isAgg33) (by repeat (first | exact .here | apply Sel.there)) (by first | rfl | assumption | (simp; done) | (simp [*]; done))) (by rfl) (by decide) ?_
        refine WL.eff (wanted_plain (by rfl)) (eff_call (by exact Try.call15) (by repeat (first | exact Evs.nil | apply Evs.cons | rfl)) (by repeat (first | exact SelL.nil | exact SelL.self | apply SelL.cons | exact Sel.here | apply Sel.there | apply SelL.skip)) (out_spec q0 (PE (1 + aroundM window 16) N ⟨0, 0, false⟩) (PE_ok (by omega) (by omega) (by simp) (by simp)))) (by rfl) (by decide) ?_
        rintro ⟨ad54, len54, cap54, vs54⟩ ⟨hl54, hv54⟩
        rw [outPE] at hl54 ⊢
        dsimp only at hl54 hv54 ⊢
        rw [pkL_len, np0] at hl54
        have hnp := np0 (1 + aroundM window 16) N
        have hn : nm (1 + aroundM window 16) N ⟨0, 0, false⟩ ≤ 16 := by unfold nm; omega
        generalize hnn : nm (1 + aroundM window 16) N ⟨0, 0, false⟩ = n at hl54 hnp hn ⊢
        try dsimp only
        refine WL.yld (wanted_plain (by rfl)) (yld_assign (by rfl)) (by rfl) (by decide) ?_
        refine WL.done ?_
        refine WK.seq ?_
        refine WK.seq ?_
        refine WK.region ?_
        refine WL.yld (wanted_plain (by rfl)) (yld_assign (by rfl)) (by rfl) (by decide) ?_
        refine WL.done ?_
        refine WK.block ?_
        refine WK.loop (ι := Nat) (fun j => j ≤ len54) (fun j => [(2, .int .i64 cut), (7, .slice (some ⟨eb, 0, none⟩) 2 2), (8, .int .i64 (N : Int)), (10, .pointer (some ⟨q2, 0, none⟩)), (12, .slice ad54 len54 cap54), (13, .int .i64 (j : Int))]) (fun j => allR (byt 5 true) (vs54.drop j) (((pkL n ⟨0, 0, false⟩).map (·.b)).drop j) :: endR q2 (PE (1 + aroundM window 16) N ⟨0, 0, false⟩) :: endR q0 (PE (1 + aroundM window 16) N ⟨0, 0, false⟩) :: sl true 33 1 (some ⟨eb, 0, none⟩) 2 2 [.pointer (some ⟨q0, 0, none⟩), .pointer (some ⟨q1, 0, none⟩)] :: sl true 44 3 ad54 len54 cap54 (pktC (pkL n ⟨0, 0, false⟩) vs54) :: F) (fun j => len54 - j) (0) (Nat.zero_le _) (by repeat (first | exact KK.nil | refine KK.cons (by first | rfl | (simp; done)) ?_)) (by repeat (first | exact SelL.nil | exact SelL.self | apply SelL.cons | exact Sel.here | apply Sel.there | apply SelL.skip)) ?_
        rintro j hj M2 hM2
        refine WK.seq ?_
        refine WK.seq ?_
        refine WK.region ?_
        refine WL.yld (wanted_plain (by rfl)) (yld_move (by rfl)) (by rfl) (by decide) ?_
        refine WL.yld (wanted_plain (by rfl)) (yld_move (by rfl)) (by rfl) (by decide) ?_
        refine WL.yld (wanted_plain (by rfl)) (yld_len (by rfl) (by exact Try.runUnderlying35)) (by rfl) (by decide) ?_
        refine WL.yld (wanted_plain (by rfl)) (yld_lss (by rfl) (by rfl)) (by rfl) (by decide) ?_
        refine WL.done ?_
        refine WK.cond (by rfl) (fun hc58 => ?_) (fun hc58 => ?_)
        · skip
          have hc58 := of_decide_eq_true hc58
          refine WK.skip ?_
          refine WK.seq ?_
          refine WK.block ?_
          refine WK.seq ?_
          refine WK.seq ?_
          have hp : (pkL n ⟨0, 0, false⟩)[j]? = some ⟨(j : Int) + 1, 0, [UInt8.ofNat j]⟩ := by rw [pkL_get (by omega), pk0 (by omega)]
          refine WK.openS (fun w s => Sat.bytHead (bs := [UInt8.ofNat j]) (by rw [List.length_map, pkL_len]; omega) (by rw [List.getElem?_map, hp]; rfl) (s.sel1 (A := allR (byt 5 true) (vs54.drop j) (((pkL n ⟨0, 0, false⟩).map (·.b)).drop j)) (by repeat (first | exact .here | apply Sel.there)))) ?_
          rintro ⟨ad7, len7, cap7⟩ ⟨hv7, hl7⟩
          dsimp only at hv7 hl7
          subst hl7
          try dsimp only [List.cons_append, List.nil_append]
          refine WK.region ?_
          refine WL.yld (wanted_plain (by rfl)) (yld_move (by rfl)) (by rfl) (by decide) ?_
          refine WL.yld (wanted_plain (by rfl)) (yld_move (by rfl)) (by rfl) (by decide) ?_
          refine WL.yld (wanted_plain (by rfl)) (yld_indexAddrS (by rfl) (by rfl) (by exact Try.runUnderlying35) (by exact Try.sizeOf44) (by repeat (first | exact .here | apply Sel.there)) (j) (by first | rfl | omega) (by omega) (by omega) (by rfl)) (by rfl) (by decide) ?_
          refine WL.yld (wanted_plain (by rfl)) (yld_fieldAddrS (by rfl) (by exact Try.runUnderlying44) (by rfl) (by exact Try.sizeOf31) (by rfl) (by rfl)) (by rfl) (by decide) ?_
          refine WL.yld (wanted_plain (by rfl)) (yld_loadS (by rfl) (by exact Try.isAgg31) (by repeat (first | exact .here | apply Sel.there)) (by exact pktC_b (j := j) hp hv7 (by rfl))) (by rfl) (by decide) ?_
          refine WL.yld (wanted_plain (by rfl)) (yld_len (by rfl) (by exact Try.runUnderlying31)) (by rfl) (by decide) ?_
          refine WL.yld (wanted_plain (by rfl)) (yld_neq (by rfl) (by rfl)) (by rfl) (by decide) ?_
          refine WL.yld (wanted_plain (by rfl)) (yld_move (by rfl)) (by rfl) (by decide) ?_
          refine WL.split (d := 68) (by rfl) (fun hc68 => ?_) (fun hc68 => ?_)
          · skip
            have hc68 := of_decide_eq_true hc68
            simp at hc68
          · skip
            have hc68 := of_decide_eq_false hc68
            refine WL.yld (wanted_some (by rfl) (by rfl) (by rfl)) (yld_move (by rfl)) (by rfl) (by decide) ?_
            refine WL.yld (wanted_some (by rfl) (by rfl) (by rfl)) (yld_move (by rfl)) (by rfl) (by decide) ?_
            refine WL.yld (wanted_some (by rfl) (by rfl) (by rfl)) (yld_indexAddrS (by rfl) (by rfl) (by exact Try.runUnderlying35) (by exact Try.sizeOf44) (by repeat (first | exact .here | apply Sel.there)) (j) (by first | rfl | omega) (by omega) (by omega) (by rfl)) (by rfl) (by decide) ?_
            refine WL.yld (wanted_some (by rfl) (by rfl) (by rfl)) (yld_fieldAddrS (by rfl) (by exact Try.runUnderlying44) (by rfl) (by exact Try.sizeOf31) (by rfl) (by rfl)) (by rfl) (by decide) ?_
            refine WL.yld (wanted_some (by rfl) (by rfl) (by rfl)) (yld_loadS (by rfl) (by exact Try.isAgg31) (by repeat (first | exact .here | apply Sel.there)) (by exact pktC_b (j := j) hp hv7 (by rfl))) (by rfl) (by decide) ?_
            refine WL.yld (wanted_some (by rfl) (by rfl) (by rfl)) (yld_indexAddrS (by rfl) (by rfl) (by exact Try.runUnderlying31) (by exact Try.sizeOf5) (by repeat (first | exact .here | apply Sel.there)) (0) (by first | rfl | omega) (by omega) (by omega) (by exact Nat.mul_one _)) (by rfl) (by decide) ?_
            refine WL.yld (wanted_some (by rfl) (by rfl) (by rfl)) (yld_loadS (by rfl) (by exact Try.isAgg5) (by repeat (first | exact .here | apply Sel.there)) (by first | rfl | assumption | (simp; done) | (simp [*]; done))) (by rfl) (by decide) ?_
            refine WL.yld (wanted_some (by rfl) (by rfl) (by rfl)) (yld_convInt (by rfl) (by exact Try.runUnderlying5) (by exact Try.runUnderlying3) (u8back (by omega))) (by rfl) (by decide) ?_
            refine WL.yld (wanted_some (by rfl) (by rfl) (by rfl)) (yld_move (by rfl)) (by rfl) (by decide) ?_
            refine WL.yld (wanted_some (by rfl) (by rfl) (by rfl)) (yld_neq (by rfl) (by rfl)) (by rfl) (by decide) ?_
            refine WL.yld (wanted_plain (by rfl)) (yld_pick_false (by rfl) (by rfl)) (by rfl) (by decide) ?_
            refine WL.done ?_
            refine WK.cond (by rfl) (fun hc79 => ?_) (fun hc79 => ?_)
            · skip
              have hc79 := of_decide_eq_true hc79
              omega
            · skip
              have hc79 := of_decide_eq_false hc79
              refine WK.skip ?_
              refine WK.region ?_
              refine WL.yld (wanted_plain (by rfl)) (yld_move (by rfl)) (by rfl) (by decide) ?_
              refine WL.yld (wanted_plain (by rfl)) (yld_move (by rfl)) (by rfl) (by decide) ?_
              refine WL.yld (wanted_plain (by rfl)) (yld_indexAddrS (by rfl) (by rfl) (by exact Try.runUnderlying35) (by exact Try.sizeOf44) (by repeat (first | exact .here | apply Sel.there)) (j) (by first | rfl | omega) (by omega) (by omega) (by rfl)) (by rfl) (by decide) ?_
              refine WL.yld (wanted_plain (by rfl)) (yld_fieldAddrS (by rfl) (by exact Try.runUnderlying44) (by rfl) (by exact Try.sizeOf31) (by rfl) (by rfl)) (by rfl) (by decide) ?_
              refine WL.yld (wanted_plain (by rfl)) (yld_loadS (by rfl) (by exact Try.isAgg31) (by repeat (first | exact .here | apply Sel.there)) (by exact pktC_b (j := j) hp hv7 (by rfl))) (by rfl) (by decide) ?_
              refine WL.yld (wanted_plain (by rfl)) (yld_indexAddrS (by rfl) (by rfl) (by exact Try.runUnderlying31) (by exact Try.sizeOf5) (by repeat (first | exact .here | apply Sel.there)) (0) (by first | rfl | omega) (by omega) (by omega) (by exact Nat.mul_one _)) (by rfl) (by decide) ?_
              refine WL.eff0 (wanted_plain (by rfl)) (eff_storeS (by rfl) (by rfl) (by exact Try.sizeOf5) (by rfl) (by rfl) (by rfl) (by simp) (by repeat (first | exact .here | apply Sel.there)) (by repeat (first | exact SetAts.nil | apply SetAts.cons | exact SetAt.here | apply SetAt.there))) (by rfl) ?_
              rintro _ -
              try dsimp only
              refine WL.done ?_
              refine WK.endBlock ?_
              refine WK.region ?_
              refine WL.yld (wanted_plain (by rfl)) (yld_move (by rfl)) (by rfl) (by decide) ?_
              refine WL.yld (wanted_plain (by rfl)) (yld_add (by rfl) (by rfl) (by first | exact w64 (by omega) (by omega) | rfl)) (by rfl) (by decide) ?_
              refine WL.yld (wanted_plain (by rfl)) (yld_assign (by rfl)) (by rfl) (by decide) ?_
              refine WL.done ?_
              exact WK.next hM2 (j + 1) (by omega) (by omega) (by repeat (first | exact KK.nil | refine KK.cons (by first | rfl | (simp; done)) ?_)) (by repeat (first | exact SelL.nil | exact SelL.self | apply SelL.cons | exact Sel.here | apply Sel.there | apply SelL.skip))
        · skip
          have hc58 := of_decide_eq_false hc58
          refine WK.exit ?_
          repeat (first | refine XQ.then_ ?_ | refine XQ.block (by rfl) ?_)
          refine XQ.here ?_
          refine WK.seq ?_
          refine WK.seq ?_
          refine WK.region ?_
          refine WL.yld (wanted_plain (by rfl)) (yld_move (by rfl)) (by rfl) (by decide) ?_
          refine WL.yld (wanted_plain (by rfl)) (yld_eqlPtr (by rfl) (by rfl) (by exact Try.runUnderlying33)) (by rfl) (by decide) ?_
          refine WL.done ?_
          refine WK.cond (by rfl) (fun h => by cases h) (fun _ => ?_)
          refine WK.skip ?_
          refine WK.seq ?_
          refine WK.region ?_
          refine WL.yld (wanted_plain (by rfl)) (yld_move (by rfl)) (by rfl) (by decide) ?_
          refine WL.yld (wanted_plain (by rfl)) (yld_indexAddrS (by rfl) (by rfl) (by exact Try.runUnderlying23) (by exact Try.sizeOf33) (by repeat (first | exact .here | apply Sel.there)) (0) (by first | rfl | omega) (by omega) (by omega) (by exact Nat.mul_one _)) (by rfl) (by decide) ?_
          refine WL.yld (wanted_plain (by rfl)) (yld_loadS (by rfl) (by exact Try.isAgg33) (by repeat (first | exact .here | apply Sel.there)) (by first | rfl | assumption | (simp; done) | (simp [*]; done))) (by rfl) (by decide) ?_
          refine WL.yld (wanted_plain (by rfl)) (yld_move (by rfl)) (by rfl) (by decide) ?_
          refine WL.yld (wanted_plain (by rfl)) (yld_build (by repeat (first | exact Prts.nil | apply Prts.cons | rfl)) (by exact Try.zeroValue44) (by exact Try.runUnderlying44) (by exact fun w => places44 w Try.underlying44) (by first | decide | simp) (by repeat (first | exact Fill.nil | apply Fill.cons | exact SetAts.nil | apply SetAts.cons | exact SetAt.here | apply SetAt.there | rfl))) (by rfl) (by decide) ?_
          refine WL.sat (fun w s => s.nilSl true 5 1) ?_
          refine WL.eff (wanted_plain (by rfl)) (eff_call (by exact Try.call19) (by repeat (first | exact Evs.nil | apply Evs.cons | rfl)) (by repeat (first | exact SelL.nil | exact SelL.self | apply SelL.cons | exact Sel.here | apply Sel.there | apply SelL.skip)) (in_spec q0 (PE (1 + aroundM window 16) N ⟨0, 0, false⟩) (PE_inok (by omega) (by simp) (by simp)) ⟨0, (N : Int), []⟩ true none 0)) (by rfl) (by decide) ?_
          rintro ⟨ad98, len98, cap98, vs98⟩ -
          rw [inAck]
          try dsimp only
          refine WL.done ?_
          refine WK.seq ?_
          refine WK.region ?_
          refine WL.yld (wanted_plain (by rfl)) (yld_move (by rfl)) (by rfl) (by decide) ?_
          refine WL.eff (wanted_plain (by rfl)) (eff_call (by exact Try.call15) (by repeat (first | exact Evs.nil | apply Evs.cons | rfl)) (by repeat (first | exact SelL.nil | exact SelL.self | apply SelL.cons | exact Sel.here | apply Sel.there | apply SelL.skip)) (out_specR q2 (PE (1 + aroundM window 16) N ⟨0, 0, false⟩) (PE_ok (by omega) (by omega) (by simp) (by simp)))) (by rfl) (by decide) ?_
          rintro ⟨ad100, len100, cap100, vs100⟩ ⟨hl100, hv100⟩
          rw [outPE] at hl100 ⊢
          dsimp only at hl100 hv100 ⊢
          rw [pkL_len, np0] at hl100
          rw [hnn] at hl100 ⊢
          try dsimp only
          refine WL.yld (wanted_plain (by rfl)) (yld_assign (by rfl)) (by rfl) (by decide) ?_
          refine WL.done ?_
          refine WK.seq ?_
          refine WK.seq ?_
          refine WK.region ?_
          refine WL.yld (wanted_plain (by rfl)) (yld_assign (by rfl)) (by rfl) (by decide) ?_
          refine WL.done ?_
          refine WK.block ?_
          refine WK.loop (ι := Nat) (fun j => j ≤ len100) (fun j => [(2, .int .i64 cut), (7, .slice (some ⟨eb, 0, none⟩) 2 2), (8, .int .i64 (N : Int)), (10, .pointer (some ⟨q2, 0, none⟩)), (12, .slice ad54 len54 cap54), (14, .slice ad100 len100 cap100), (15, .int .i64 (j : Int))]) (fun j => sl true 44 3 ad100 len100 cap100 (pktC (pkL n ⟨0, 0, false⟩) vs100) :: allR (byt 5 false) vs100 ((pkL n ⟨0, 0, false⟩).map (·.b)) :: endR q2 (PE (1 + aroundM window 16) N ⟨0, 0, false⟩) :: endR q0 (PE (1 + aroundM window 16) N ⟨N, 0, false⟩) :: sl true 33 1 (some ⟨eb, 0, none⟩) 2 2 [.pointer (some ⟨q0, 0, none⟩), .pointer (some ⟨q1, 0, none⟩)] :: F) (fun j => len100 - j) (0) (Nat.zero_le _) (by repeat (first | exact KK.nil | refine KK.cons (by first | rfl | (simp; done)) ?_)) (by repeat (first | exact SelL.nil | exact SelL.self | apply SelL.cons | exact Sel.here | apply Sel.there | apply SelL.skip)) ?_
          rintro j hj M3 hM3
          refine WK.seq ?_
          refine WK.seq ?_
          refine WK.region ?_
          refine WL.yld (wanted_plain (by rfl)) (yld_move (by rfl)) (by rfl) (by decide) ?_
          refine WL.yld (wanted_plain (by rfl)) (yld_move (by rfl)) (by rfl) (by decide) ?_
          refine WL.yld (wanted_plain (by rfl)) (yld_len (by rfl) (by exact Try.runUnderlying35)) (by rfl) (by decide) ?_
          refine WL.yld (wanted_plain (by rfl)) (yld_lss (by rfl) (by rfl)) (by rfl) (by decide) ?_
          refine WL.done ?_
          refine WK.cond (by rfl) (fun hc104 => ?_) (fun hc104 => ?_)
          · skip
            have hc104 := of_decide_eq_true hc104
            refine WK.skip ?_
            refine WK.seq ?_
            refine WK.block ?_
            refine WK.seq ?_
            have hp : (pkL n ⟨0, 0, false⟩)[j]? = some ⟨(j : Int) + 1, 0, [UInt8.ofNat j]⟩ := by rw [pkL_get (by omega), pk0 (by omega)]
            refine WK.openS (fun w s => Sat.allByt (k := j) (bs := [UInt8.ofNat j]) (by rw [List.getElem?_map, hp]; rfl) (s.sel1 (A := allR (byt 5 false) vs100 ((pkL n ⟨0, 0, false⟩).map (·.b))) (by repeat (first | exact .here | apply Sel.there)))) ?_
            rintro ⟨ad7, len7, cap7⟩ ⟨hv7, hl7⟩
            dsimp only at hv7 hl7
            subst hl7
            try dsimp only [List.cons_append, List.nil_append]
            refine WK.region ?_
            refine WL.yld (wanted_plain (by rfl)) (yld_move (by rfl)) (by rfl) (by decide) ?_
            refine WL.yld (wanted_plain (by rfl)) (yld_move (by rfl)) (by rfl) (by decide) ?_
            refine WL.yld (wanted_plain (by rfl)) (yld_indexAddrS (by rfl) (by rfl) (by exact Try.runUnderlying35) (by exact Try.sizeOf44) (by repeat (first | exact .here | apply Sel.there)) (j) (by first | rfl | omega) (by omega) (by omega) (by rfl)) (by rfl) (by decide) ?_
            refine WL.yld (wanted_plain (by rfl)) (yld_fieldAddrS (by rfl) (by exact Try.runUnderlying44) (by rfl) (by exact Try.sizeOf31) (by rfl) (by rfl)) (by rfl) (by decide) ?_
            refine WL.yld (wanted_plain (by rfl)) (yld_loadS (by rfl) (by exact Try.isAgg31) (by repeat (first | exact .here | apply Sel.there)) (by exact pktC_b (j := j) hp hv7 (by rfl))) (by rfl) (by decide) ?_
            refine WL.yld (wanted_plain (by rfl)) (yld_len (by rfl) (by exact Try.runUnderlying31)) (by rfl) (by decide) ?_
            refine WL.yld (wanted_plain (by rfl)) (yld_neq (by rfl) (by rfl)) (by rfl) (by decide) ?_
            refine WL.yld (wanted_plain (by rfl)) (yld_move (by rfl)) (by rfl) (by decide) ?_
            refine WL.split (d := 114) (by rfl) (fun hc114 => ?_) (fun hc114 => ?_)
            · skip
              have hc114 := of_decide_eq_true hc114
              simp at hc114
            · skip
              have hc114 := of_decide_eq_false hc114
              refine WL.yld (wanted_some (by rfl) (by rfl) (by rfl)) (yld_move (by rfl)) (by rfl) (by decide) ?_
              refine WL.yld (wanted_some (by rfl) (by rfl) (by rfl)) (yld_move (by rfl)) (by rfl) (by decide) ?_
              refine WL.yld (wanted_some (by rfl) (by rfl) (by rfl)) (yld_indexAddrS (by rfl) (by rfl) (by exact Try.runUnderlying35) (by exact Try.sizeOf44) (by repeat (first | exact .here | apply Sel.there)) (j) (by first | rfl | omega) (by omega) (by omega) (by rfl)) (by rfl) (by decide) ?_
              refine WL.yld (wanted_some (by rfl) (by rfl) (by rfl)) (yld_fieldAddrS (by rfl) (by exact Try.runUnderlying44) (by rfl) (by exact Try.sizeOf31) (by rfl) (by rfl)) (by rfl) (by decide) ?_
              refine WL.yld (wanted_some (by rfl) (by rfl) (by rfl)) (yld_loadS (by rfl) (by exact Try.isAgg31) (by repeat (first | exact .here | apply Sel.there)) (by exact pktC_b (j := j) hp hv7 (by rfl))) (by rfl) (by decide) ?_
              refine WL.yld (wanted_some (by rfl) (by rfl) (by rfl)) (yld_indexAddrS (by rfl) (by rfl) (by exact Try.runUnderlying31) (by exact Try.sizeOf5) (by repeat (first | exact .here | apply Sel.there)) (0) (by first | rfl | omega) (by omega) (by omega) (by exact Nat.mul_one _)) (by rfl) (by decide) ?_
              refine WL.yld (wanted_some (by rfl) (by rfl) (by rfl)) (yld_loadS (by rfl) (by exact Try.isAgg5) (by repeat (first | exact .here | apply Sel.there)) (by first | rfl | assumption | (simp; done) | (simp [*]; done))) (by rfl) (by decide) ?_
              refine WL.yld (wanted_some (by rfl) (by rfl) (by rfl)) (yld_convInt (by rfl) (by exact Try.runUnderlying5) (by exact Try.runUnderlying3) (u8back (by omega))) (by rfl) (by decide) ?_
              refine WL.yld (wanted_some (by rfl) (by rfl) (by rfl)) (yld_move (by rfl)) (by rfl) (by decide) ?_
              refine WL.yld (wanted_some (by rfl) (by rfl) (by rfl)) (yld_neq (by rfl) (by rfl)) (by rfl) (by decide) ?_
              refine WL.yld (wanted_plain (by rfl)) (yld_pick_false (by rfl) (by rfl)) (by rfl) (by decide) ?_
              refine WL.yld (wanted_plain (by rfl)) (yld_move (by rfl)) (by rfl) (by decide) ?_
              refine WL.split (d := 126) (by rfl) (fun hc126 => ?_) (fun hc126 => ?_)
              · skip
                have hc126 := of_decide_eq_true hc126
                omega
              · skip
                have hc126 := of_decide_eq_false hc126
                refine WL.yld (wanted_some (by rfl) (by rfl) (by rfl)) (yld_move (by rfl)) (by rfl) (by decide) ?_
                refine WL.yld (wanted_some (by rfl) (by rfl) (by rfl)) (yld_move (by rfl)) (by rfl) (by decide) ?_
                refine WL.yld (wanted_some (by rfl) (by rfl) (by rfl)) (yld_indexAddrS (by rfl) (by rfl) (by exact Try.runUnderlying35) (by exact Try.sizeOf44) (by repeat (first | exact .here | apply Sel.there)) (j) (by first | rfl | omega) (by omega) (by omega) (by rfl)) (by rfl) (by decide) ?_
                refine WL.yld (wanted_some (by rfl) (by rfl) (by rfl)) (yld_fieldAddrS (by rfl) (by exact Try.runUnderlying44) (by rfl) (by exact Try.sizeOf3) (by rfl) (by rfl)) (by rfl) (by decide) ?_
                refine WL.yld (wanted_some (by rfl) (by rfl) (by rfl)) (yld_loadS (by rfl) (by exact Try.isAgg3) (by repeat (first | exact .here | apply Sel.there)) (by exact pktC_seq (j := j) hp (by omega) (by rfl))) (by rfl) (by decide) ?_
                refine WL.yld (wanted_some (by rfl) (by rfl) (by rfl)) (yld_move (by rfl)) (by rfl) (by decide) ?_
                refine WL.yld (wanted_some (by rfl) (by rfl) (by rfl)) (yld_add (by rfl) (by rfl) (by first | exact w64 (by omega) (by omega) | rfl)) (by rfl) (by decide) ?_
                refine WL.yld (wanted_some (by rfl) (by rfl) (by rfl)) (yld_neq (by rfl) (by rfl)) (by rfl) (by decide) ?_
                refine WL.yld (wanted_plain (by rfl)) (yld_pick_false (by rfl) (by rfl)) (by rfl) (by decide) ?_
                refine WL.done ?_
                refine WK.cond (by rfl) (fun hc135 => ?_) (fun hc135 => ?_)
                · skip
                  have hc135 := of_decide_eq_true hc135
                  dsimp only at hc135
                  omega
                · skip
                  have hc135 := of_decide_eq_false hc135
                  refine WK.skip ?_
                  refine WK.endBlock ?_
                  refine WK.region ?_
                  refine WL.yld (wanted_plain (by rfl)) (yld_move (by rfl)) (by rfl) (by decide) ?_
                  refine WL.yld (wanted_plain (by rfl)) (yld_add (by rfl) (by rfl) (by first | exact w64 (by omega) (by omega) | rfl)) (by rfl) (by decide) ?_
                  refine WL.yld (wanted_plain (by rfl)) (yld_assign (by rfl)) (by rfl) (by decide) ?_
                  refine WL.done ?_
                  exact WK.next hM3 (j + 1) (by omega) (by omega) (by repeat (first | exact KK.nil | refine KK.cons (by first | rfl | (simp; done)) ?_)) (by repeat (first | exact SelL.nil | exact SelL.self | apply SelL.cons | exact Sel.here | apply Sel.there | apply SelL.skip))
          · skip
            have hc104 := of_decide_eq_false hc104
            refine WK.exit ?_
            repeat (first | refine XQ.then_ ?_ | refine XQ.block (by rfl) ?_)
            refine XQ.here ?_
            refine WK.seq ?_
            refine WK.region ?_
            refine WL.yld (wanted_plain (by rfl)) (yld_move (by rfl)) (by rfl) (by decide) ?_
            refine WL.yld (wanted_plain (by rfl)) (yld_len (by rfl) (by exact Try.runUnderlying35)) (by rfl) (by decide) ?_
            refine WL.yld (wanted_plain (by rfl)) (yld_move (by rfl)) (by rfl) (by decide) ?_
            refine WL.yld (wanted_plain (by rfl)) (yld_len (by rfl) (by exact Try.runUnderlying35)) (by rfl) (by decide) ?_
            refine WL.yld (wanted_plain (by rfl)) (yld_eql (by rfl) (by rfl)) (by rfl) (by decide) ?_
            refine WL.yld (wanted_plain (by rfl)) (yld_move (by rfl)) (by rfl) (by decide) ?_
            refine WL.split (d := 141) (by rfl) (fun hc141 => ?_) (fun hc141 => ?_)
            · skip
              have hc141 := of_decide_eq_true hc141
              refine WL.yld (wanted_some (by rfl) (by rfl) (by rfl)) (yld_move (by rfl)) (by rfl) (by decide) ?_
              refine WL.eff (wanted_some (by rfl) (by rfl) (by rfl)) (eff_call (by exact Try.call22) (by repeat (first | exact Evs.nil | apply Evs.cons | rfl)) (by repeat (first | exact SelL.nil | exact SelL.self | apply SelL.cons | exact Sel.here | apply Sel.there | apply SelL.skip)) (waiting_spec q2 (PE (1 + aroundM window 16) N ⟨0, 0, false⟩))) (by rfl) (by decide) ?_
              rintro _ -
              rw [show (PE (1 + aroundM window 16) N ⟨0, 0, false⟩).waiting.length = N - 0 from msgs_len _ _]
              try dsimp only
              refine WL.yld (wanted_some (by rfl) (by rfl) (by rfl)) (yld_move (by rfl)) (by rfl) (by decide) ?_
              refine WL.yld (wanted_some (by rfl) (by rfl) (by rfl)) (yld_eql (by rfl) (by rfl)) (by rfl) (by decide) ?_
              refine WL.yld (wanted_plain (by rfl)) (yld_pick_true (by rfl) (by rfl)) (by rfl) (by decide) ?_
              refine WL.yld (wanted_plain (by rfl)) (yld_move (by rfl)) (by rfl) (by decide) ?_
              refine WL.split (d := 147) (by rfl) (fun hc147 => ?_) (fun hc147 => ?_)
              · skip
                have hc147 := of_decide_eq_true hc147
                refine WL.yld (wanted_some (by rfl) (by rfl) (by rfl)) (yld_move (by rfl)) (by rfl) (by decide) ?_
                refine WL.yld (wanted_some (by rfl) (by rfl) (by rfl)) (yld_indexAddrS (by rfl) (by rfl) (by exact Try.runUnderlying23) (by exact Try.sizeOf33) (by repeat (first | exact .here | apply Sel.there)) (0) (by first | rfl | omega) (by omega) (by omega) (by exact Nat.mul_one _)) (by rfl) (by decide) ?_
                refine WL.yld (wanted_some (by rfl) (by rfl) (by rfl)) (yld_loadS (by rfl) (by exact Try.isAgg33) (by repeat (first | exact .here | apply Sel.there)) (by first | rfl | assumption | (simp; done) | (simp [*]; done))) (by rfl) (by decide) ?_
                refine WL.eff (wanted_some (by rfl) (by rfl) (by rfl)) (eff_call (by exact Try.call22) (by repeat (first | exact Evs.nil | apply Evs.cons | rfl)) (by repeat (first | exact SelL.nil | exact SelL.self | apply SelL.cons | exact Sel.here | apply Sel.there | apply SelL.skip)) (waiting_spec q0 (PE (1 + aroundM window 16) N ⟨N, 0, false⟩))) (by rfl) (by decide) ?_
                rintro _ -
                rw [show (PE (1 + aroundM window 16) N ⟨N, 0, false⟩).waiting.length = N - N from msgs_len _ _]
                try dsimp only
                refine WL.yld (wanted_some (by rfl) (by rfl) (by rfl)) (yld_eql (by rfl) (by rfl)) (by rfl) (by decide) ?_
                refine WL.yld (wanted_plain (by rfl)) (yld_pick_true (by rfl) (by rfl)) (by rfl) (by decide) ?_
                refine WL.yld (wanted_plain (by rfl)) (yld_move (by rfl)) (by rfl) (by decide) ?_
                refine WL.split (d := 154) (by rfl) (fun hc154 => ?_) (fun hc154 => ?_)
                · skip
                  have hc154 := of_decide_eq_true hc154
                  refine WL.eff (wanted_some (by rfl) (by rfl) (by rfl)) (eff_call (by exact Try.call23) (by repeat (first | exact Evs.nil | apply Evs.cons | rfl)) (by repeat (first | exact SelL.nil | exact SelL.self | apply SelL.cons | exact Sel.here | apply Sel.there | apply SelL.skip)) lives_spec) (by rfl) (by decide) ?_
                  rintro _ -
                  try dsimp only
                  refine WL.yld (wanted_plain (by rfl)) (yld_pick_true (by rfl) (by rfl)) (by rfl) (by decide) ?_
                  refine WL.yld (wanted_plain (by rfl)) (yld_assign (by rfl)) (by rfl) (by decide) ?_
                  refine WL.done ?_
                  refine WK.ret ?_
                  repeat (first | refine RQ.block ?_ | refine RQ.then_ ?_)
                  refine RQ.body (results1 (by rfl) (by rfl)) (fun w s => ?_)
                  exact ⟨(), trivial, rfl, s.toCs (by repeat (first | exact SelL.nil | exact SelL.self | apply SelL.cons | exact Sel.here | apply Sel.there | apply SelL.skip))⟩
                · skip
                  have hc154 := of_decide_eq_false hc154
                  omega
              · skip
                have hc147 := of_decide_eq_false hc147
                omega
            · skip
              have hc141 := of_decide_eq_false hc141
              omega
end Go.Proofs.Ytnknclbiamhnaaa
