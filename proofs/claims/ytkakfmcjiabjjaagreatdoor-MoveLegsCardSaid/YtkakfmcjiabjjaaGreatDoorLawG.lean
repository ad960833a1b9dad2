import Derived.Test.YtkakfmcjiabjjaaGreatDoorLdgB
namespace Go.Proofs.YtkakfmcjiabjjaaGreatDoor
set_option linter.unusedVariables false
set_option linter.unusedSimpArgs false
set_option linter.unusedSectionVars false
set_option linter.unnecessarySimpa false
open Go Go.Sep
attribute [local irreducible] row sl mapO held exL allR byt mapI slr mapK rangeK vec pack
def prC (p : Int × Int) : List Value := [.int .i64 p.1, .int .i64 p.2]
theorem prC_len : ∀ p, (prC p).length = 2 := fun _ => rfl
def balM (st : StkM) (a it : Int) : Int := totM ((kget st (a, it)).getD [])
/-- What an account has of the first n items. -/
def wantM (st : StkM) (a : Int) : Nat → List AmtM
  | 0 => []
  | n + 1 => if 0 < balM st a (n : Int) then wantM st a n ++ [⟨(n : Int), balM st a (n : Int)⟩] else wantM st a n
theorem wantM_len (st : StkM) (a : Int) : ∀ n, (wantM st a n).length ≤ n
  | 0 => by simp [wantM]
  | n + 1 => by
    have := wantM_len st a n
    unfold wantM
    split
    · simp; omega
    · omega
theorem mem_wantM {st : StkM} {a : Int} {y : AmtM} : ∀ {n : Nat}, y ∈ wantM st a n ↔ ∃ i : Nat, i < n ∧ 0 < balM st a (i : Int) ∧ y = ⟨(i : Int), balM st a (i : Int)⟩
  | 0 => by simp [wantM]
  | n + 1 => by
    unfold wantM
    constructor
    · intro h
      split at h
      · next hb =>
        rcases List.mem_append.1 h with h | h
        · obtain ⟨i, h1, h2, h3⟩ := mem_wantM.1 h
          exact ⟨i, by omega, h2, h3⟩
        · exact ⟨n, by omega, hb, by simpa using h⟩
      · obtain ⟨i, h1, h2, h3⟩ := mem_wantM.1 h
        exact ⟨i, by omega, h2, h3⟩
    · rintro ⟨i, h1, h2, h3⟩
      by_cases e : i = n
      · subst e
        rw [if_pos h2]
        exact List.mem_append_right _ (by simp [h3])
      · have := (mem_wantM (n := n)).2 ⟨i, by omega, h2, h3⟩
        split
        · exact List.mem_append_left _ this
        · exact this
theorem wantM_inc (st : StkM) (a : Int) : ∀ n, (wantM st a n).Pairwise (fun x y => x.item < y.item)
  | 0 => List.Pairwise.nil
  | n + 1 => by
    have ih := wantM_inc st a n
    unfold wantM
    split
    · rw [List.pairwise_append]
      refine ⟨ih, by simp, fun x hx y hy => ?_⟩
      obtain ⟨i, h1, h2, rfl⟩ := mem_wantM.1 hx
      obtain rfl : y = _ := by simpa using hy
      dsimp only
      omega
    · exact ih
theorem inc_eq : ∀ {l m : List AmtM}, l.Pairwise (fun x y => x.item < y.item) → m.Pairwise (fun x y => x.item < y.item) → (∀ x, x ∈ l ↔ x ∈ m) → l = m
  | [], [], _, _, _ => rfl
  | [], y :: m, _, _, h => absurd ((h y).2 (by simp)) (by simp)
  | x :: l, [], _, _, h => absurd ((h x).1 (by simp)) (by simp)
  | x :: l, y :: m, hl, hm, h => by
    obtain ⟨hl1, hl2⟩ := List.pairwise_cons.1 hl
    obtain ⟨hm1, hm2⟩ := List.pairwise_cons.1 hm
    have hxy : x = y := by
      rcases List.mem_cons.1 ((h x).1 (by simp)) with e | e
      · exact e
      · rcases List.mem_cons.1 ((h y).2 (by simp)) with e2 | e2
        · exact e2.symm
        · have := hm1 x e
          have := hl1 y e2
          omega
    subst hxy
    rw [inc_eq hl2 hm2 fun z => ?_]
    constructor
    · intro hz
      rcases List.mem_cons.1 ((h z).1 (by simp [hz])) with e | e
      · subst e; have := hl1 z hz; omega
      · exact e
    · intro hz
      rcases List.mem_cons.1 ((h z).2 (by simp [hz])) with e | e
      · subst e; have := hm1 z hz; omega
      · exact e
theorem kget_of_mem {p : Place} {l : List LotM} : ∀ {st : StkM}, (st.map (·.1)).Nodup → (p, l) ∈ st → kget st p = some l
  | [], _, h => by simp at h
  | (j, u) :: st, hn, h => by
    simp only [List.map_cons, List.nodup_cons] at hn
    rcases List.mem_cons.1 h with e | e
    · cases e; simp [kget]
    · have hne : j ≠ p := by
        rintro rfl
        exact hn.1 (List.mem_map_of_mem (f := (·.1)) e)
      simp only [kget, if_neg hne]
      exact kget_of_mem hn.2 e
theorem totM_pos {l : List LotM} (h : VL l) (hne : l ≠ []) : 0 < totM l := by
  have key : ∀ m : List LotM, (∀ x ∈ m, okLot x) → 0 ≤ totM m := by
    intro m
    induction m with
    | nil => intro _; simp [totM]
    | cons x m ih =>
      intro hx
      have h1 := hx x (by simp)
      have h2 := ih fun y hy => hx y (by simp [hy])
      unfold okLot at h1
      simp only [totM]
      omega
  cases l with
  | nil => exact absurd rfl hne
  | cons x m =>
    have h1 := h.2 x (by simp)
    have h2 := key m fun y hy => h.2 y (by simp [hy])
    unfold okLot at h1
    simp only [totM]
    omega
theorem mem_amOf {a : Int} {st : StkM} {y : AmtM} : y ∈ amOf a (st.map holdOf) ↔ ∃ x ∈ st, x.1.1 = a ∧ y = ⟨x.1.2, totM x.2⟩ := by
  unfold amOf
  simp only [List.mem_map, List.mem_filter, decide_eq_true_eq]
  constructor
  · rintro ⟨h, ⟨⟨x, hx, rfl⟩, ha⟩, rfl⟩
    exact ⟨x, hx, ha, rfl⟩
  · rintro ⟨x, hx, ha, rfl⟩
    exact ⟨holdOf x, ⟨⟨x, hx, rfl⟩, ha⟩, rfl⟩
theorem want_eq {st : StkM} {k : Nat} (hi : LInv st k) {a : Int} {am : List AmtM} (hp : am.Perm (amOf a (st.map holdOf))) (hs : sortedA am) : am = wantM st a 4 := by
  have hmem : ∀ y, y ∈ amOf a (st.map holdOf) ↔ y ∈ wantM st a 4 := fun y => by
    rw [mem_amOf, mem_wantM]
    constructor
    · rintro ⟨x, hx, rfl, rfl⟩
      have hk := kget_of_mem hi.nodup (p := x.1) (l := x.2) hx
      have hacc := (hi.accs x hx).2
      have hpos := totM_pos (hi.lots x hx).1 (hi.lots x hx).2
      refine ⟨x.1.2.toNat, by omega, ?_, ?_⟩
      · rw [Int.toNat_of_nonneg hacc.1, balM, show ((x.1.1, x.1.2) : Place) = x.1 from rfl, hk]
        exact hpos
      · rw [Int.toNat_of_nonneg hacc.1, balM, show ((x.1.1, x.1.2) : Place) = x.1 from rfl, hk]
        rfl
    · rintro ⟨i, h1, h2, rfl⟩
      unfold balM at h2 ⊢
      cases e : kget st (a, (i : Int)) with
      | none => rw [e] at h2; simp [totM] at h2
      | some l => exact ⟨((a, (i : Int)), l), kget_mem e, rfl, rfl⟩
  have hnd : (amOf a (st.map holdOf)).Pairwise (fun x y => x.item ≠ y.item) := by
    unfold amOf
    rw [List.pairwise_map]
    refine List.Pairwise.imp_of_mem (R := fun (x y : HoldM) => x.account = a → y.account = a → x.item ≠ y.item) (fun {x y} hx hy h => ?_) (List.Pairwise.filter _ ?_)
    · exact h (by simpa using (List.mem_filter.1 hx).2) (by simpa using (List.mem_filter.1 hy).2)
    · rw [List.pairwise_map]
      have hn := hi.nodup
      unfold List.Nodup at hn
      rw [List.pairwise_map] at hn
      refine hn.imp fun {x y} h h1 h2 h3 => h ?_
      have e1 : x.1.1 = y.1.1 := by
        have h1 : x.1.1 = a := h1
        have h2 : y.1.1 = a := h2
        rw [h1, h2]
      exact Prod.ext e1 h3
  have hnd2 : am.Pairwise (fun x y => x.item ≠ y.item) := (hp.pairwise_iff (fun {x y} h => Ne.symm h)).2 hnd
  refine inc_eq ?_ (wantM_inc st a 4) fun y => by rw [hp.mem_iff, hmem]
  refine (List.Pairwise.and hs hnd2).imp fun {x y} h => ?_
  have h1 := h.1
  have h2 := h.2
  unfold cmpA at h1
  omega
def GoodL (a s1 to : Int) : Prop := (1 ≤ a ∧ a ≤ 1073741824) ∧ (0 ≤ s1 ∧ s1 < 12) ∧ (0 ≤ to ∧ to < 12) ∧ s1 ≠ to
theorem caseG (st : StkM) (a s1 to : Int) : ¬ ((1 ≤ a ∧ a ≤ 1073741824) ∧ (0 ≤ s1 ∧ s1 < 12) ∧ (0 ≤ to ∧ to < 12) ∧ s1 ≠ to) ∨ (((1 ≤ a ∧ a ≤ 1073741824) ∧ (0 ≤ s1 ∧ s1 < 12) ∧ (0 ≤ to ∧ to < 12) ∧ s1 ≠ to) ∧ amOf a (st.map holdOf) = []) ∨ (((1 ≤ a ∧ a ≤ 1073741824) ∧ (0 ≤ s1 ∧ s1 < 12) ∧ (0 ≤ to ∧ to < 12) ∧ s1 ≠ to) ∧ amOf a (st.map holdOf) ≠ []) := by
  by_cases h : ((1 ≤ a ∧ a ≤ 1073741824) ∧ (0 ≤ s1 ∧ s1 < 12) ∧ (0 ≤ to ∧ to < 12) ∧ s1 ≠ to)
  · by_cases e : amOf a (st.map holdOf) = []
    · exact .inr (.inl ⟨h, e⟩)
    · exact .inr (.inr ⟨h, e⟩)
  · exact .inl h
theorem legV_ne {x : List AmtM × (Option Addr × Nat) × Nat} (h : x.1 ≠ []) : legV x = .tuple #[.slice (some ⟨x.2.2, 0, none⟩) 1 1, .int .i64 0] := by
  obtain ⟨am, p, b⟩ := x
  cases am with
  | nil => exact absurd rfl h
  | cons y r => rfl
theorem legP_ne {s1 a to : Int} {x : List AmtM × (Option Addr × Nat) × Nat} (h : x.1 ≠ []) : legP s1 a to x = pack [sl true 75 5 (some ⟨x.2.2, 0, none⟩) 1 1 (legC s1 a to x.2.1.1 x.1.length x.2.1.2), sl true 78 2 x.2.1.1 x.1.length x.2.1.2 (flat amtC x.1)] := by
  obtain ⟨am, p, b⟩ := x
  cases am with
  | nil => exact absurd rfl h
  | cons y r => rfl
set_option maxRecDepth 20000 in
set_option maxHeartbeats 1000000 in
theorem legsLaw_spec (ad : Option Addr) (len cap : Nat) (l : List Int) (hl : ∀ n ∈ l, -9223372036854775808 ≤ n ∧ n ≤ 9223372036854775807) (shard account to : Int) (h_shard : -9223372036854775808 ≤ shard ∧ shard ≤ 9223372036854775807) (h_account : -9223372036854775808 ≤ account ∧ account ≤ 9223372036854775807) (h_to : -9223372036854775808 ≤ to ∧ to ≤ 9223372036854775807) :
  Triple Tryz.prog 8 #[.slice ad len cap, .int .i64 shard, .int .i64 account, .int .i64 to] [slr 1 ad len (l.map (Value.int .i64))] (Unit) (fun _ => True) (fun _ => .bool true) (fun _ => [slr 1 ad len (l.map (Value.int .i64))]) := by
 refine Triple.of_body (args := [.slice ad len cap, .int .i64 shard, .int .i64 account, .int .i64 to]) Tryz.func8 rfl Tryz.ntmps8 (by simp) (fun g F => ?_)
 dsimp only [numb, List.cons_append, List.nil_append]
 refine WK.seq ?_
 refine WK.region ?_
 refine Ly y_assign ?_
 refine WL.done ?_
 refine WK.seq ?_
 refine WK.region ?_
 refine Ly y_move ?_
 refine Le (e_call (by exact Tryz.call26) (t := ledgers1_spec ad len cap l hl)) ?_
 rintro ⟨q, st, k, oad, ocap⟩ ⟨hinv, hk8⟩
 dsimp only at hinv hk8 ⊢
 try dsimp only
 refine Ly y_move ?_
 refine Ly y_extract ?_
 refine Ly y_extract ?_
 refine Ly y_assign ?_
 refine Ly y_assign ?_
 refine WL.done ?_
 refine WK.seq ?_
 refine WK.seq ?_
 refine WK.region ?_
 refine Ly y_move ?_
 refine Ly y_not ?_
 refine WL.done ?_
 refine Kcond (ht := fun h => by cases h) (hf := fun _ => ?_)
 refine WK.skip ?_
 refine WK.seq ?_
 refine WK.region ?_
 refine Ly y_move ?_
 refine Ly y_move ?_
 refine Le (e_call (by exact Tryz.call10) (t := around_spec account 14 h_account (by omega))) ?_
 rintro _ -
 try dsimp only
 refine Le (e_mkSliceN (by exact Tryz.runUnderlying22) (by exact Tryz.sizeOf3) (by exact Tryz.zeroValue3) (hb := by decide) (hk0 := by rfl) (hl0 := by rfl) (h1 := by rfl)) ?_
 rintro b33 -
 try dsimp only [List.cons_append, List.nil_append]
 try dsimp only
 refine Ly y_assign ?_
 refine WL.done ?_
 refine WK.seq ?_
 refine WK.region ?_
 refine Ly y_move ?_
 refine Ly y_move ?_
 refine Ly (y_buildA (hz := by exact Tryz.zeroValue38) (hu := by exact Tryz.runUnderlying38) (hs := by exact Tryz.sizeOf3) (hne := by rfl)) ?_
 refine Ly y_move ?_
 refine Le (e_call (by exact Tryz.call10) (t := around_spec shard 13 h_shard (by omega))) ?_
 rintro _ -
 try dsimp only
 refine Ly y_move ?_
 refine Le (e_call (by exact Tryz.call10) (t := around_spec to 13 h_to (by omega))) ?_
 rintro _ -
 try dsimp only
 refine Ly (y_buildA (hz := by exact Tryz.zeroValue38) (hu := by exact Tryz.runUnderlying38) (hs := by exact Tryz.sizeOf3) (hne := by rfl)) ?_
 refine Le (e_mkSliceN (by exact Tryz.runUnderlying39) (by exact Tryz.sizeOf38) (by exact Tryz.zeroValue38) (hb := by decide) (hk0 := by rfl) (hl0 := by rfl) (h1 := by rfl)) ?_
 rintro b42 -
 try dsimp only [List.cons_append, List.nil_append]
 try dsimp only
 refine Ly y_assign ?_
 refine WL.done ?_
 refine WK.seq ?_
 refine WK.seq ?_
 refine WK.region ?_
 refine Ly y_assign ?_
 refine WL.done ?_
 refine WK.block ?_
 refine Kloop (ι := Nat) (fun i => i ≤ 2) (fun i => [(9, .slice oad 1 ocap), (11, .slice (some ⟨b33, 0, none⟩) 2 2), (12, .slice (some ⟨b42, 0, none⟩) 2 2), (13, .int .i64 (i : Int))]) (fun _ => sl true 55 1 oad 1 ocap [.pointer (some ⟨q, 0, none⟩)] :: ledP q st k :: sl true 3 1 (some ⟨b33, 0, none⟩) 2 2 ([account, aroundM account 14].map (Value.int .i64)) :: sl true 38 2 (some ⟨b42, 0, none⟩) 2 2 (flat prC [(shard, to), (aroundM shard 13, aroundM to 13)]) :: slr 1 ad len (l.map (Value.int .i64)) :: F) (fun i => 2 - i) (0) (Nat.zero_le _) (round := ?_)
 rintro i hi N hN
 refine WK.seq ?_
 refine WK.seq ?_
 refine WK.region ?_
 refine Ly y_move ?_
 refine Ly y_lss ?_
 refine WL.done ?_
 refine Kcond (ht := fun hc44 => ?_) (hf := fun hc44 => ?_)
 ·
  have hc44 := of_decide_eq_true hc44
  refine WK.skip ?_
  refine WK.seq ?_
  refine WK.block ?_
  refine WK.seq ?_
  refine WK.region ?_
  refine Ly y_assign ?_
  refine WL.done ?_
  refine WK.block ?_
  refine Kloop (ι := Nat) (fun j => j ≤ 2) (fun j => [(9, .slice oad 1 ocap), (11, .slice (some ⟨b33, 0, none⟩) 2 2), (12, .slice (some ⟨b42, 0, none⟩) 2 2), (13, .int .i64 (i : Int)), (14, .int .i64 (j : Int))]) (fun _ => sl true 55 1 oad 1 ocap [.pointer (some ⟨q, 0, none⟩)] :: ledP q st k :: sl true 3 1 (some ⟨b33, 0, none⟩) 2 2 ([account, aroundM account 14].map (Value.int .i64)) :: sl true 38 2 (some ⟨b42, 0, none⟩) 2 2 (flat prC [(shard, to), (aroundM shard 13, aroundM to 13)]) :: slr 1 ad len (l.map (Value.int .i64)) :: F) (fun j => 2 - j) (0) (Nat.zero_le _) (round := ?_)
  rintro j hj N2 hN2
  refine WK.seq ?_
  refine WK.seq ?_
  refine WK.region ?_
  refine Ly y_move ?_
  refine Ly y_lss ?_
  refine WL.done ?_
  refine Kcond (ht := fun hc48 => ?_) (hf := fun hc48 => ?_)
  ·
   have hc48 := of_decide_eq_true hc48
   obtain ⟨a, ha⟩ : ∃ x, [account, aroundM account 14][i]? = some x := ⟨_, List.getElem?_eq_getElem (by simp; omega)⟩
   obtain ⟨s, hs⟩ : ∃ x, [(shard, to), (aroundM shard 13, aroundM to 13)][j]? = some x := ⟨_, List.getElem?_eq_getElem (by simp; omega)⟩
   refine WK.skip ?_
   refine WK.seq ?_
   refine WK.block ?_
   refine WK.seq ?_
   refine WK.region ?_
   refine Ly y_move ?_
   refine Ly y_move ?_
   refine Ly (y_indexAddrS (hu := by exact Tryz.runUnderlying22) (hz := by exact Tryz.sizeOf3) (j := i) (hi := by first | rfl | omega) (hj' := by omega) (hj := by omega) (hr := by exact Nat.mul_one _)) ?_
   refine Ly (y_loadS (ha := by exact Tryz.isAgg3) (hv := (by rw [List.getElem?_map, ha]; rfl))) ?_
   refine Ly y_assign ?_
   refine WL.done ?_
   refine WK.seq ?_
   refine WK.region ?_
   refine Ly y_move ?_
   refine Ly y_move ?_
   refine Ly (y_indexAddrS (hu := by exact Tryz.runUnderlying39) (hz := by exact Tryz.sizeOf38) (j := j) (hi := by first | rfl | omega) (hj' := by omega) (hj := by omega)) ?_
   refine Ly (y_loadSA (ha := by exact Tryz.isAgg38) (hm := by exact Tryz.sizeOf38) (hv := by exact flat_cells prC_len hs)) ?_
   refine Le (e_alloc (by exact Tryz.zeroValue38)) ?_
   rintro b16 -
   try dsimp only
   refine Le0 (e_store (hk := by exact Tryz.sizeOf38) (h1 := by rfl)) ?_
   rintro _ -
   try dsimp only
   refine WL.done ?_
   refine WK.seq ?_
   rcases caseG st a s.1 s.2 with hbad | ⟨hg, hem⟩ | ⟨hg, hem⟩
   ·
    refine Kdr (l := [(0, 0), (1, 0), (2, 0), (3, 0), (4, 0), (5, 0), (6, 0), (7, 0), (8, 1), (9, 0), (10, 0), (11, 0), (12, 0), (13, 0)]) (Cs := [row true b16 38 [.int .i64 s.1, .int .i64 s.2], sl true 55 1 oad 1 ocap [.pointer (some ⟨q, 0, none⟩)]]) (h := ?_)
    refine Oy (y := y_move) (h := ?_)
    refine Oy (y := y_indexAddrS (hu := by exact Tryz.runUnderlying52) (hz := by exact Tryz.sizeOf55) (j := 0) (hi := by first | rfl | omega) (hj' := by omega) (hj := by omega) (hr := by exact Nat.mul_one _)) (h := ?_)
    refine Oy (y := y_loadS (ha := by exact Tryz.isAgg55)) (h := ?_)
    refine Oy (y := y_indexAddrA (hu := by exact Tryz.runUnderlying38) (hs := by exact Tryz.sizeOf3) (k := 0) (hi := by first | rfl | omega) (hl := by first | decide | omega)) (h := ?_)
    refine Oy (y := y_load (ha := by exact Tryz.isAgg3)) (h := ?_)
    refine Oy (y := y_move) (h := ?_)
    refine Oy (y := y_indexAddrA (hu := by exact Tryz.runUnderlying38) (hs := by exact Tryz.sizeOf3) (k := 1) (hi := by first | rfl | omega) (hl := by first | decide | omega)) (h := ?_)
    refine Oy (y := y_load (ha := by exact Tryz.isAgg3)) (h := ?_)
    refine Oe (e := (e_call (by exact Tryz.call30) (t := (legsBad_spec (.pointer (some ⟨q, 0, none⟩)) s.1 a s.2 hbad)))) (h := ?_)
    rintro _ -
    try dsimp only
    refine Oy (y := y_move) (h := ?_)
    refine Oy (y := y_extract) (h := ?_)
    refine Oy (y := y_extract) (h := ?_)
    refine Oy (y := y_assign) (h := ?_)
    refine Oy (y := y_assign) (h := ?_)
    refine WO.done ?_
    refine WK.seq ?_
    refine WK.seq ?_
    refine WK.region ?_
    refine Ly y_move ?_
    refine Ly y_lss ?_
    refine Ly y_move ?_
    refine WL.split (d := 73) (by rfl) (fun hc73 => ?_) (fun hc73 => ?_)
    ·
     have hc73 := of_decide_eq_true hc73
     refine Lz ?_
     refine Lz ?_
     refine Ly y_pick_true ?_
     refine Ly y_move ?_
     refine Lz ?_
     refine Lz ?_
     refine Lz ?_
     refine Ly y_pick_true ?_
     refine Ly y_move ?_
     refine Lz ?_
     refine Lz ?_
     refine Lz ?_
     refine Ly y_pick_true ?_
     refine Ly y_move ?_
     refine Lz ?_
     refine Lz ?_
     refine Lz ?_
     refine Ly y_pick_true ?_
     refine Ly y_move ?_
     refine Lz ?_
     refine Lz ?_
     refine Lz ?_
     refine Ly y_pick_true ?_
     refine Ly y_move ?_
     refine Lz ?_
     refine Lz ?_
     refine Lz ?_
     refine Lz ?_
     refine Lz ?_
     refine Ly y_pick_true ?_
     refine WL.done ?_
     refine Kcond (ht := fun _ => ?_) (hf := fun h => by cases h)
     refine WK.seq ?_
     refine WK.seq ?_
     refine WK.region ?_
     refine Ly y_move ?_
     refine Ly y_neq ?_
     refine Ly y_move ?_
     refine Lyg y_move ?_
     refine Lyg (y_len (hu := by exact Tryz.runUnderlying70)) ?_
     refine Lyg y_neq ?_
     refine Ly y_pick_false ?_
     refine WL.done ?_
     refine Kcond (ht := fun h => by cases h) (hf := fun _ => ?_)
     refine WK.skip ?_
     refine WK.exit ?_
     repeat (first | refine XQ.then_ ?_ | refine XQ.block (by rfl) ?_)
     refine XQ.here ?_
     refine WK.region ?_
     refine Ly y_move ?_
     refine Ly y_add ?_
     refine Ly y_assign ?_
     refine WL.done ?_
     exact Knext hN2 (j + 1) (by omega) (by omega)
    ·
     have hc73 := of_decide_eq_false hc73
     refine Lyg y_move ?_
     refine Lyg y_gtr ?_
     refine Ly y_pick_false ?_
     refine Ly y_move ?_
     refine WL.split (d := 77) (by rfl) (fun hc77 => ?_) (fun hc77 => ?_)
     ·
      have hc77 := of_decide_eq_true hc77
      refine Lz ?_
      refine Lz ?_
      refine Lz ?_
      refine Ly y_pick_true ?_
      refine Ly y_move ?_
      refine Lz ?_
      refine Lz ?_
      refine Lz ?_
      refine Ly y_pick_true ?_
      refine Ly y_move ?_
      refine Lz ?_
      refine Lz ?_
      refine Lz ?_
      refine Ly y_pick_true ?_
      refine Ly y_move ?_
      refine Lz ?_
      refine Lz ?_
      refine Lz ?_
      refine Ly y_pick_true ?_
      refine Ly y_move ?_
      refine Lz ?_
      refine Lz ?_
      refine Lz ?_
      refine Lz ?_
      refine Lz ?_
      refine Ly y_pick_true ?_
      refine WL.done ?_
      refine Kcond (ht := fun _ => ?_) (hf := fun h => by cases h)
      refine WK.seq ?_
      refine WK.seq ?_
      refine WK.region ?_
      refine Ly y_move ?_
      refine Ly y_neq ?_
      refine Ly y_move ?_
      refine Lyg y_move ?_
      refine Lyg (y_len (hu := by exact Tryz.runUnderlying70)) ?_
      refine Lyg y_neq ?_
      refine Ly y_pick_false ?_
      refine WL.done ?_
      refine Kcond (ht := fun h => by cases h) (hf := fun _ => ?_)
      refine WK.skip ?_
      refine WK.exit ?_
      repeat (first | refine XQ.then_ ?_ | refine XQ.block (by rfl) ?_)
      refine XQ.here ?_
      refine WK.region ?_
      refine Ly y_move ?_
      refine Ly y_add ?_
      refine Ly y_assign ?_
      refine WL.done ?_
      exact Knext hN2 (j + 1) (by omega) (by omega)
     ·
      have hc77 := of_decide_eq_false hc77
      refine Lyg (y_indexAddrA (hu := by exact Tryz.runUnderlying38) (hs := by exact Tryz.sizeOf3) (k := 0) (hi := by first | rfl | omega) (hl := by first | decide | omega)) ?_
      refine Lyg (y_load (ha := by exact Tryz.isAgg3)) ?_
      refine Lyg y_lss ?_
      refine Ly y_pick_false ?_
      refine Ly y_move ?_
      refine WL.split (d := 82) (by rfl) (fun hc82 => ?_) (fun hc82 => ?_)
      ·
       have hc82 := of_decide_eq_true hc82
       refine Lz ?_
       refine Lz ?_
       refine Lz ?_
       refine Ly y_pick_true ?_
       refine Ly y_move ?_
       refine Lz ?_
       refine Lz ?_
       refine Lz ?_
       refine Ly y_pick_true ?_
       refine Ly y_move ?_
       refine Lz ?_
       refine Lz ?_
       refine Lz ?_
       refine Ly y_pick_true ?_
       refine Ly y_move ?_
       refine Lz ?_
       refine Lz ?_
       refine Lz ?_
       refine Lz ?_
       refine Lz ?_
       refine Ly y_pick_true ?_
       refine WL.done ?_
       refine Kcond (ht := fun _ => ?_) (hf := fun h => by cases h)
       refine WK.seq ?_
       refine WK.seq ?_
       refine WK.region ?_
       refine Ly y_move ?_
       refine Ly y_neq ?_
       refine Ly y_move ?_
       refine Lyg y_move ?_
       refine Lyg (y_len (hu := by exact Tryz.runUnderlying70)) ?_
       refine Lyg y_neq ?_
       refine Ly y_pick_false ?_
       refine WL.done ?_
       refine Kcond (ht := fun h => by cases h) (hf := fun _ => ?_)
       refine WK.skip ?_
       refine WK.exit ?_
       repeat (first | refine XQ.then_ ?_ | refine XQ.block (by rfl) ?_)
       refine XQ.here ?_
       refine WK.region ?_
       refine Ly y_move ?_
       refine Ly y_add ?_
       refine Ly y_assign ?_
       refine WL.done ?_
       exact Knext hN2 (j + 1) (by omega) (by omega)
      ·
       have hc82 := of_decide_eq_false hc82
       refine Lyg (y_indexAddrA (hu := by exact Tryz.runUnderlying38) (hs := by exact Tryz.sizeOf3) (k := 0) (hi := by first | rfl | omega) (hl := by first | decide | omega)) ?_
       refine Lyg (y_load (ha := by exact Tryz.isAgg3)) ?_
       refine Lyg y_gtr ?_
       refine Ly y_pick_false ?_
       refine Ly y_move ?_
       refine WL.split (d := 87) (by rfl) (fun hc87 => ?_) (fun hc87 => ?_)
       ·
        have hc87 := of_decide_eq_true hc87
        refine Lz ?_
        refine Lz ?_
        refine Lz ?_
        refine Ly y_pick_true ?_
        refine Ly y_move ?_
        refine Lz ?_
        refine Lz ?_
        refine Lz ?_
        refine Ly y_pick_true ?_
        refine Ly y_move ?_
        refine Lz ?_
        refine Lz ?_
        refine Lz ?_
        refine Lz ?_
        refine Lz ?_
        refine Ly y_pick_true ?_
        refine WL.done ?_
        refine Kcond (ht := fun _ => ?_) (hf := fun h => by cases h)
        refine WK.seq ?_
        refine WK.seq ?_
        refine WK.region ?_
        refine Ly y_move ?_
        refine Ly y_neq ?_
        refine Ly y_move ?_
        refine Lyg y_move ?_
        refine Lyg (y_len (hu := by exact Tryz.runUnderlying70)) ?_
        refine Lyg y_neq ?_
        refine Ly y_pick_false ?_
        refine WL.done ?_
        refine Kcond (ht := fun h => by cases h) (hf := fun _ => ?_)
        refine WK.skip ?_
        refine WK.exit ?_
        repeat (first | refine XQ.then_ ?_ | refine XQ.block (by rfl) ?_)
        refine XQ.here ?_
        refine WK.region ?_
        refine Ly y_move ?_
        refine Ly y_add ?_
        refine Ly y_assign ?_
        refine WL.done ?_
        exact Knext hN2 (j + 1) (by omega) (by omega)
       ·
        have hc87 := of_decide_eq_false hc87
        refine Lyg (y_indexAddrA (hu := by exact Tryz.runUnderlying38) (hs := by exact Tryz.sizeOf3) (k := 1) (hi := by first | rfl | omega) (hl := by first | decide | omega)) ?_
        refine Lyg (y_load (ha := by exact Tryz.isAgg3)) ?_
        refine Lyg y_lss ?_
        refine Ly y_pick_false ?_
        refine Ly y_move ?_
        refine WL.split (d := 92) (by rfl) (fun hc92 => ?_) (fun hc92 => ?_)
        ·
         have hc92 := of_decide_eq_true hc92
         refine Lz ?_
         refine Lz ?_
         refine Lz ?_
         refine Ly y_pick_true ?_
         refine Ly y_move ?_
         refine Lz ?_
         refine Lz ?_
         refine Lz ?_
         refine Lz ?_
         refine Lz ?_
         refine Ly y_pick_true ?_
         refine WL.done ?_
         refine Kcond (ht := fun _ => ?_) (hf := fun h => by cases h)
         refine WK.seq ?_
         refine WK.seq ?_
         refine WK.region ?_
         refine Ly y_move ?_
         refine Ly y_neq ?_
         refine Ly y_move ?_
         refine Lyg y_move ?_
         refine Lyg (y_len (hu := by exact Tryz.runUnderlying70)) ?_
         refine Lyg y_neq ?_
         refine Ly y_pick_false ?_
         refine WL.done ?_
         refine Kcond (ht := fun h => by cases h) (hf := fun _ => ?_)
         refine WK.skip ?_
         refine WK.exit ?_
         repeat (first | refine XQ.then_ ?_ | refine XQ.block (by rfl) ?_)
         refine XQ.here ?_
         refine WK.region ?_
         refine Ly y_move ?_
         refine Ly y_add ?_
         refine Ly y_assign ?_
         refine WL.done ?_
         exact Knext hN2 (j + 1) (by omega) (by omega)
        ·
         have hc92 := of_decide_eq_false hc92
         refine Lyg (y_indexAddrA (hu := by exact Tryz.runUnderlying38) (hs := by exact Tryz.sizeOf3) (k := 1) (hi := by first | rfl | omega) (hl := by first | decide | omega)) ?_
         refine Lyg (y_load (ha := by exact Tryz.isAgg3)) ?_
         refine Lyg y_gtr ?_
         refine Ly y_pick_false ?_
         refine Ly y_move ?_
         refine WL.split (d := 97) (by rfl) (fun hc97 => ?_) (fun hc97 => ?_)
         ·
          have hc97 := of_decide_eq_true hc97
          refine Lz ?_
          refine Lz ?_
          refine Lz ?_
          refine Lz ?_
          refine Lz ?_
          refine Ly y_pick_true ?_
          refine WL.done ?_
          refine Kcond (ht := fun _ => ?_) (hf := fun h => by cases h)
          refine WK.seq ?_
          refine WK.seq ?_
          refine WK.region ?_
          refine Ly y_move ?_
          refine Ly y_neq ?_
          refine Ly y_move ?_
          refine Lyg y_move ?_
          refine Lyg (y_len (hu := by exact Tryz.runUnderlying70)) ?_
          refine Lyg y_neq ?_
          refine Ly y_pick_false ?_
          refine WL.done ?_
          refine Kcond (ht := fun h => by cases h) (hf := fun _ => ?_)
          refine WK.skip ?_
          refine WK.exit ?_
          repeat (first | refine XQ.then_ ?_ | refine XQ.block (by rfl) ?_)
          refine XQ.here ?_
          refine WK.region ?_
          refine Ly y_move ?_
          refine Ly y_add ?_
          refine Ly y_assign ?_
          refine WL.done ?_
          exact Knext hN2 (j + 1) (by omega) (by omega)
         ·
          have hc97 := of_decide_eq_false hc97
          refine Lyg (y_indexAddrA (hu := by exact Tryz.runUnderlying38) (hs := by exact Tryz.sizeOf3) (k := 0) (hi := by first | rfl | omega) (hl := by first | decide | omega)) ?_
          refine Lyg (y_load (ha := by exact Tryz.isAgg3)) ?_
          refine Lyg (y_indexAddrA (hu := by exact Tryz.runUnderlying38) (hs := by exact Tryz.sizeOf3) (k := 1) (hi := by first | rfl | omega) (hl := by first | decide | omega)) ?_
          refine Lyg (y_load (ha := by exact Tryz.isAgg3)) ?_
          refine Lyg y_eql ?_
          refine Ly y_pick_false ?_
          refine WL.done ?_
          refine Kcond (ht := fun hc103 => ?_) (hf := fun hc103 => ?_)
          ·
           have hc103 := of_decide_eq_true hc103
           refine WK.seq ?_
           refine WK.seq ?_
           refine WK.region ?_
           refine Ly y_move ?_
           refine Ly y_neq ?_
           refine Ly y_move ?_
           refine Lyg y_move ?_
           refine Lyg (y_len (hu := by exact Tryz.runUnderlying70)) ?_
           refine Lyg y_neq ?_
           refine Ly y_pick_false ?_
           refine WL.done ?_
           refine Kcond (ht := fun h => by cases h) (hf := fun _ => ?_)
           refine WK.skip ?_
           refine WK.exit ?_
           repeat (first | refine XQ.then_ ?_ | refine XQ.block (by rfl) ?_)
           refine XQ.here ?_
           refine WK.region ?_
           refine Ly y_move ?_
           refine Ly y_add ?_
           refine Ly y_assign ?_
           refine WL.done ?_
           exact Knext hN2 (j + 1) (by omega) (by omega)
          ·
           have hc103 := of_decide_eq_false hc103
           exfalso
           first | omega | (simp at hc103; done) | (simp at hc103; omega) | (simp_all; done) | (simp_all; omega)
   ·
    refine Kdr (l := [(0, 0), (1, 0), (2, 0), (3, 0), (4, 0), (5, 0), (6, 0), (7, 0), (8, 1), (9, 0), (10, 0), (11, 0), (12, 0), (13, 0)]) (Cs := [row true b16 38 [.int .i64 s.1, .int .i64 s.2], sl true 55 1 oad 1 ocap [.pointer (some ⟨q, 0, none⟩)]]) (h := ?_)
    refine Oy (y := y_move) (h := ?_)
    refine Oy (y := y_indexAddrS (hu := by exact Tryz.runUnderlying52) (hz := by exact Tryz.sizeOf55) (j := 0) (hi := by first | rfl | omega) (hj' := by omega) (hj := by omega) (hr := by exact Nat.mul_one _)) (h := ?_)
    refine Oy (y := y_loadS (ha := by exact Tryz.isAgg55)) (h := ?_)
    refine Oy (y := y_indexAddrA (hu := by exact Tryz.runUnderlying38) (hs := by exact Tryz.sizeOf3) (k := 0) (hi := by first | rfl | omega) (hl := by first | decide | omega)) (h := ?_)
    refine Oy (y := y_load (ha := by exact Tryz.isAgg3)) (h := ?_)
    refine Oy (y := y_move) (h := ?_)
    refine Oy (y := y_indexAddrA (hu := by exact Tryz.runUnderlying38) (hs := by exact Tryz.sizeOf3) (k := 1) (hi := by first | rfl | omega) (hl := by first | decide | omega)) (h := ?_)
    refine Oy (y := y_load (ha := by exact Tryz.isAgg3)) (h := ?_)
    refine Oe (e := e_call (by exact Tryz.call30) (t := legsL_spec q st k hinv (by omega) s.1 a s.2 hg.1 hg.2.1 hg.2.2.1 hg.2.2.2)) (h := ?_)
    rintro ⟨am, ⟨lad, lc⟩, lb⟩ ⟨hpm, hsr⟩
    dsimp only at hpm hsr
    have hpm2 := hpm
    rw [hem] at hpm2
    obtain rfl : am = [] := List.perm_nil.1 hpm2
    dsimp only [legV]
    try dsimp only
    refine Oy (y := y_move) (h := ?_)
    refine Oy (y := y_extract) (h := ?_)
    refine Oy (y := y_extract) (h := ?_)
    refine Oy (y := y_assign) (h := ?_)
    refine Oy (y := y_assign) (h := ?_)
    refine WO.done ?_
    refine WK.seq ?_
    refine WK.seq ?_
    refine WK.region ?_
    refine Ly y_move ?_
    refine Ly y_lss ?_
    refine Ly y_move ?_
    refine WL.split (d := 73) (by rfl) (fun hc73 => ?_) (fun hc73 => ?_)
    ·
     have hc73 := of_decide_eq_true hc73
     exfalso
     first | omega | (simp at hc73; done) | (simp at hc73; omega) | (simp_all; done) | (simp_all; omega)
    ·
     have hc73 := of_decide_eq_false hc73
     refine Lyg y_move ?_
     refine Lyg y_gtr ?_
     refine Ly y_pick_false ?_
     refine Ly y_move ?_
     refine WL.split (d := 77) (by rfl) (fun hc77 => ?_) (fun hc77 => ?_)
     ·
      have hc77 := of_decide_eq_true hc77
      exfalso
      first | omega | (simp at hc77; done) | (simp at hc77; omega) | (simp_all; done) | (simp_all; omega)
     ·
      have hc77 := of_decide_eq_false hc77
      refine Lyg (y_indexAddrA (hu := by exact Tryz.runUnderlying38) (hs := by exact Tryz.sizeOf3) (k := 0) (hi := by first | rfl | omega) (hl := by first | decide | omega)) ?_
      refine Lyg (y_load (ha := by exact Tryz.isAgg3)) ?_
      refine Lyg y_lss ?_
      refine Ly y_pick_false ?_
      refine Ly y_move ?_
      refine WL.split (d := 82) (by rfl) (fun hc82 => ?_) (fun hc82 => ?_)
      ·
       have hc82 := of_decide_eq_true hc82
       exfalso
       first | omega | (simp at hc82; done) | (simp at hc82; omega) | (simp_all; done) | (simp_all; omega)
      ·
       have hc82 := of_decide_eq_false hc82
       refine Lyg (y_indexAddrA (hu := by exact Tryz.runUnderlying38) (hs := by exact Tryz.sizeOf3) (k := 0) (hi := by first | rfl | omega) (hl := by first | decide | omega)) ?_
       refine Lyg (y_load (ha := by exact Tryz.isAgg3)) ?_
       refine Lyg y_gtr ?_
       refine Ly y_pick_false ?_
       refine Ly y_move ?_
       refine WL.split (d := 87) (by rfl) (fun hc87 => ?_) (fun hc87 => ?_)
       ·
        have hc87 := of_decide_eq_true hc87
        exfalso
        first | omega | (simp at hc87; done) | (simp at hc87; omega) | (simp_all; done) | (simp_all; omega)
       ·
        have hc87 := of_decide_eq_false hc87
        refine Lyg (y_indexAddrA (hu := by exact Tryz.runUnderlying38) (hs := by exact Tryz.sizeOf3) (k := 1) (hi := by first | rfl | omega) (hl := by first | decide | omega)) ?_
        refine Lyg (y_load (ha := by exact Tryz.isAgg3)) ?_
        refine Lyg y_lss ?_
        refine Ly y_pick_false ?_
        refine Ly y_move ?_
        refine WL.split (d := 92) (by rfl) (fun hc92 => ?_) (fun hc92 => ?_)
        ·
         have hc92 := of_decide_eq_true hc92
         exfalso
         first | omega | (simp at hc92; done) | (simp at hc92; omega) | (simp_all; done) | (simp_all; omega)
        ·
         have hc92 := of_decide_eq_false hc92
         refine Lyg (y_indexAddrA (hu := by exact Tryz.runUnderlying38) (hs := by exact Tryz.sizeOf3) (k := 1) (hi := by first | rfl | omega) (hl := by first | decide | omega)) ?_
         refine Lyg (y_load (ha := by exact Tryz.isAgg3)) ?_
         refine Lyg y_gtr ?_
         refine Ly y_pick_false ?_
         refine Ly y_move ?_
         refine WL.split (d := 97) (by rfl) (fun hc97 => ?_) (fun hc97 => ?_)
         ·
          have hc97 := of_decide_eq_true hc97
          exfalso
          first | omega | (simp at hc97; done) | (simp at hc97; omega) | (simp_all; done) | (simp_all; omega)
         ·
          have hc97 := of_decide_eq_false hc97
          refine Lyg (y_indexAddrA (hu := by exact Tryz.runUnderlying38) (hs := by exact Tryz.sizeOf3) (k := 0) (hi := by first | rfl | omega) (hl := by first | decide | omega)) ?_
          refine Lyg (y_load (ha := by exact Tryz.isAgg3)) ?_
          refine Lyg (y_indexAddrA (hu := by exact Tryz.runUnderlying38) (hs := by exact Tryz.sizeOf3) (k := 1) (hi := by first | rfl | omega) (hl := by first | decide | omega)) ?_
          refine Lyg (y_load (ha := by exact Tryz.isAgg3)) ?_
          refine Lyg y_eql ?_
          refine Ly y_pick_false ?_
          refine WL.done ?_
          refine Kcond (ht := fun hc103 => ?_) (hf := fun hc103 => ?_)
          ·
           have hc103 := of_decide_eq_true hc103
           exfalso
           first | omega | (simp at hc103; done) | (simp at hc103; omega) | (simp_all; done) | (simp_all; omega)
          ·
           have hc103 := of_decide_eq_false hc103
           refine WK.skip ?_
           refine WK.seq ?_
           refine WK.region ?_
           refine Ly y_assign ?_
           refine WL.done ?_
           refine WK.seq ?_
           refine WK.seq ?_
           refine WK.region ?_
           refine Ly y_assign ?_
           refine WL.done ?_
           refine WK.block ?_
           refine WK.sat (fun w s => Sat.nilSl s true 78 2) ?_
           refine Kloop (ι := Nat × Option Addr × Nat) (fun x => x.1 ≤ 4) (fun x => [(9, .slice oad 1 ocap), (11, .slice (some ⟨b33, 0, none⟩) 2 2), (12, .slice (some ⟨b42, 0, none⟩) 2 2), (13, .int .i64 (i : Int)), (14, .int .i64 (j : Int)), (15, .int .i64 a), (16, .pointer (some ⟨b16, 0, none⟩)), (17, .slice none 0 0), (18, .int .i64 7), (19, .slice x.2.1 (wantM st a x.1).length x.2.2), (20, .int .i64 (x.1 : Int))]) (fun x => sl true 78 2 x.2.1 (wantM st a x.1).length x.2.2 (flat amtC (wantM st a x.1)) :: row true b16 38 [.int .i64 s.1, .int .i64 s.2] :: sl true 55 1 oad 1 ocap [.pointer (some ⟨q, 0, none⟩)] :: ledP q st k :: sl true 3 1 (some ⟨b33, 0, none⟩) 2 2 ([account, aroundM account 14].map (Value.int .i64)) :: sl true 38 2 (some ⟨b42, 0, none⟩) 2 2 (flat prC [(shard, to), (aroundM shard 13, aroundM to 13)]) :: slr 1 ad len (l.map (Value.int .i64)) :: F) (fun x => 4 - x.1) ((0, none, 0)) (Nat.zero_le _) (round := ?_)
           rintro ⟨it, wad, wcap⟩ hit N3 hN3
           dsimp only at hit ⊢
           have hwl := wantM_len st a it
           refine WK.seq ?_
           refine WK.seq ?_
           refine WK.region ?_
           refine Ly y_move ?_
           refine Ly y_lss ?_
           refine WL.done ?_
           refine Kcond (ht := fun hc112 => ?_) (hf := fun hc112 => ?_)
           ·
            have hc112 := of_decide_eq_true hc112
            refine WK.skip ?_
            refine WK.seq ?_
            refine WK.block ?_
            refine WK.seq ?_
            refine WK.region ?_
            refine Ly y_move ?_
            refine Ly (y_indexAddrS (hu := by exact Tryz.runUnderlying52) (hz := by exact Tryz.sizeOf55) (j := 0) (hi := by first | rfl | omega) (hj' := by omega) (hj := by omega) (hr := by exact Nat.mul_one _)) ?_
            refine Ly (y_loadS (ha := by exact Tryz.isAgg55)) ?_
            refine Ly y_move ?_
            refine Ly y_move ?_
            refine Le (e_call (by exact Tryz.call31) (t := balanceL_spec q st k hinv (by omega) a (it : Int))) ?_
            rintro _ -
            rw [show totM ((kget st (a, (it : Int))).getD []) = balM st a (it : Int) from rfl]
            try dsimp only
            refine Ly y_assign ?_
            refine WL.done ?_
            refine WK.seq ?_
            refine WK.region ?_
            refine Ly y_move ?_
            refine Ly y_gtr ?_
            refine WL.done ?_
            refine Kcond (ht := fun hc122 => ?_) (hf := fun hc122 => ?_)
            ·
             have hc122 := of_decide_eq_true hc122
             refine WK.region ?_
             refine Ly y_move ?_
             refine Ly y_move ?_
             refine Ly y_move ?_
             refine Ly (y_build (hz := by exact Tryz.zeroValue78) (hu := by exact Tryz.runUnderlying78) (hp := by exact fun w => places78 w Tryz.underlying78) (hne := by first | decide | simp)) ?_
             refine Le (e_mkSlice1 (hu := by exact Tryz.runUnderlying73) (hk := by exact Tryz.sizeOf78) (hz := by exact Tryz.zeroValue78) (hk0 := by rfl) (hb := by decide) (h1 := by rfl)) ?_
             rintro b127 -
             try dsimp only
             refine Le (e_append (et := elem73) (htx := by exact Tryz.underlying73) (hb := by omega) (hm := by omega)) ?_
             rintro ⟨ad128, cap128⟩ -
             try dsimp only
             refine Ly y_assign ?_
             refine WL.done ?_
             refine WK.endBlock ?_
             refine WK.region ?_
             refine Ly y_move ?_
             refine Ly y_add ?_
             refine Ly y_assign ?_
             refine WL.done ?_
             apply WK.next hN3 (it + 1, ad128, cap128) (by dsimp only; omega) (by dsimp only; omega) (by repeat (first | exact KK.nil | refine KK.cons (by first | rfl | (simp only [wantM, if_pos hc122, List.length_append, List.length_singleton]; rfl) | (simp; done)) ?_))
             dsimp only
             rw [show wantM st a (it + 1) = wantM st a it ++ [⟨(it : Int), balM st a (it : Int)⟩] from if_pos hc122, List.length_append, flat_app, flat_one]
             exact (by repeat (first | exact SelL.nil | exact SelL.self | apply SelL.cons | exact Sel.here | apply Sel.there | apply SelL.skip))
            ·
             have hc122 := of_decide_eq_false hc122
             refine WK.skip ?_
             refine WK.endBlock ?_
             refine WK.region ?_
             refine Ly y_move ?_
             refine Ly y_add ?_
             refine Ly y_assign ?_
             refine WL.done ?_
             apply WK.next hN3 (it + 1, wad, wcap) (by dsimp only; omega) (by dsimp only; omega) (by repeat (first | exact KK.nil | refine KK.cons (by first | rfl | (simp only [wantM, if_neg hc122]; rfl) | (simp; done)) ?_))
             dsimp only
             rw [show wantM st a (it + 1) = wantM st a it from if_neg hc122]
             exact (by repeat (first | exact SelL.nil | exact SelL.self | apply SelL.cons | exact Sel.here | apply Sel.there | apply SelL.skip))
           ·
            have hc112 := of_decide_eq_false hc112
            obtain rfl : it = 4 := by omega
            have hw := want_eq hinv hpm hsr
            rw [← hw]
            refine WK.exit ?_
            repeat (first | refine XQ.then_ ?_ | refine XQ.block (by rfl) ?_)
            refine XQ.here ?_
            refine WK.seq ?_
            refine WK.seq ?_
            refine WK.region ?_
            refine Ly y_move ?_
            refine Ly (y_len (hu := by exact Tryz.runUnderlying73)) ?_
            refine Ly y_eql ?_
            refine WL.done ?_
            refine Kcond (ht := fun hc131 => ?_) (hf := fun hc131 => ?_)
            ·
             have hc131 := of_decide_eq_true hc131
             refine WK.seq ?_
             refine WK.seq ?_
             refine WK.region ?_
             refine Ly y_move ?_
             refine Ly y_neq ?_
             refine Ly y_move ?_
             refine Lyg y_move ?_
             refine Lyg (y_len (hu := by exact Tryz.runUnderlying70)) ?_
             refine Lyg y_neq ?_
             refine Ly y_pick_false ?_
             refine WL.done ?_
             refine Kcond (ht := fun h => by cases h) (hf := fun _ => ?_)
             refine WK.skip ?_
             refine WK.exit ?_
             repeat (first | refine XQ.then_ ?_ | refine XQ.block (by rfl) ?_)
             refine XQ.here ?_
             refine WK.region ?_
             refine Ly y_move ?_
             refine Ly y_add ?_
             refine Ly y_assign ?_
             refine WL.done ?_
             exact Knext hN2 (j + 1) (by omega) (by omega)
            ·
             have hc131 := of_decide_eq_false hc131
             exfalso
             first | omega | (simp at hc131; done) | (simp at hc131; omega) | (simp_all; done) | (simp_all; omega)
   ·
    refine Kdr (l := [(0, 0), (1, 0), (2, 0), (3, 0), (4, 0), (5, 0), (6, 0), (7, 0), (8, 1), (9, 0), (10, 0), (11, 0), (12, 0), (13, 0)]) (Cs := [row true b16 38 [.int .i64 s.1, .int .i64 s.2], sl true 55 1 oad 1 ocap [.pointer (some ⟨q, 0, none⟩)]]) (h := ?_)
    refine Oy (y := y_move) (h := ?_)
    refine Oy (y := y_indexAddrS (hu := by exact Tryz.runUnderlying52) (hz := by exact Tryz.sizeOf55) (j := 0) (hi := by first | rfl | omega) (hj' := by omega) (hj := by omega) (hr := by exact Nat.mul_one _)) (h := ?_)
    refine Oy (y := y_loadS (ha := by exact Tryz.isAgg55)) (h := ?_)
    refine Oy (y := y_indexAddrA (hu := by exact Tryz.runUnderlying38) (hs := by exact Tryz.sizeOf3) (k := 0) (hi := by first | rfl | omega) (hl := by first | decide | omega)) (h := ?_)
    refine Oy (y := y_load (ha := by exact Tryz.isAgg3)) (h := ?_)
    refine Oy (y := y_move) (h := ?_)
    refine Oy (y := y_indexAddrA (hu := by exact Tryz.runUnderlying38) (hs := by exact Tryz.sizeOf3) (k := 1) (hi := by first | rfl | omega) (hl := by first | decide | omega)) (h := ?_)
    refine Oy (y := y_load (ha := by exact Tryz.isAgg3)) (h := ?_)
    refine Oe (e := e_call (by exact Tryz.call30) (t := legsL_spec q st k hinv (by omega) s.1 a s.2 hg.1 hg.2.1 hg.2.2.1 hg.2.2.2)) (h := ?_)
    rintro ⟨am, ⟨lad, lc⟩, lb⟩ ⟨hpm, hsr⟩
    dsimp only at hpm hsr
    have hne : am ≠ [] := fun e => by
      rw [e] at hpm
      exact hem (List.nil_perm.1 hpm)
    rw [legV_ne hne, legP_ne hne]
    dsimp only
    try dsimp only
    refine Oy (y := y_move) (h := ?_)
    refine Oy (y := y_extract) (h := ?_)
    refine Oy (y := y_extract) (h := ?_)
    refine Oy (y := y_assign) (h := ?_)
    refine Oy (y := y_assign) (h := ?_)
    refine WO.done ?_
    refine WK.sat (fun w sx => Sat.unpack (sx.sel1 (A := pack [sl true 75 5 (some ⟨lb, 0, none⟩) 1 1 (legC s.1 a s.2 lad am.length lc), sl true 78 2 lad am.length lc (flat amtC am)]) (by repeat (first | exact .here | apply Sel.there)))) ?_
    dsimp only [List.cons_append, List.nil_append]
    refine WK.seq ?_
    refine WK.seq ?_
    refine WK.region ?_
    refine Ly y_move ?_
    refine Ly y_lss ?_
    refine Ly y_move ?_
    refine WL.split (d := 73) (by rfl) (fun hc73 => ?_) (fun hc73 => ?_)
    ·
     have hc73 := of_decide_eq_true hc73
     exfalso
     first | omega | (simp at hc73; done) | (simp at hc73; omega) | (simp_all; done) | (simp_all; omega)
    ·
     have hc73 := of_decide_eq_false hc73
     refine Lyg y_move ?_
     refine Lyg y_gtr ?_
     refine Ly y_pick_false ?_
     refine Ly y_move ?_
     refine WL.split (d := 77) (by rfl) (fun hc77 => ?_) (fun hc77 => ?_)
     ·
      have hc77 := of_decide_eq_true hc77
      exfalso
      first | omega | (simp at hc77; done) | (simp at hc77; omega) | (simp_all; done) | (simp_all; omega)
     ·
      have hc77 := of_decide_eq_false hc77
      refine Lyg (y_indexAddrA (hu := by exact Tryz.runUnderlying38) (hs := by exact Tryz.sizeOf3) (k := 0) (hi := by first | rfl | omega) (hl := by first | decide | omega)) ?_
      refine Lyg (y_load (ha := by exact Tryz.isAgg3)) ?_
      refine Lyg y_lss ?_
      refine Ly y_pick_false ?_
      refine Ly y_move ?_
      refine WL.split (d := 82) (by rfl) (fun hc82 => ?_) (fun hc82 => ?_)
      ·
       have hc82 := of_decide_eq_true hc82
       exfalso
       first | omega | (simp at hc82; done) | (simp at hc82; omega) | (simp_all; done) | (simp_all; omega)
      ·
       have hc82 := of_decide_eq_false hc82
       refine Lyg (y_indexAddrA (hu := by exact Tryz.runUnderlying38) (hs := by exact Tryz.sizeOf3) (k := 0) (hi := by first | rfl | omega) (hl := by first | decide | omega)) ?_
       refine Lyg (y_load (ha := by exact Tryz.isAgg3)) ?_
       refine Lyg y_gtr ?_
       refine Ly y_pick_false ?_
       refine Ly y_move ?_
       refine WL.split (d := 87) (by rfl) (fun hc87 => ?_) (fun hc87 => ?_)
       ·
        have hc87 := of_decide_eq_true hc87
        exfalso
        first | omega | (simp at hc87; done) | (simp at hc87; omega) | (simp_all; done) | (simp_all; omega)
       ·
        have hc87 := of_decide_eq_false hc87
        refine Lyg (y_indexAddrA (hu := by exact Tryz.runUnderlying38) (hs := by exact Tryz.sizeOf3) (k := 1) (hi := by first | rfl | omega) (hl := by first | decide | omega)) ?_
        refine Lyg (y_load (ha := by exact Tryz.isAgg3)) ?_
        refine Lyg y_lss ?_
        refine Ly y_pick_false ?_
        refine Ly y_move ?_
        refine WL.split (d := 92) (by rfl) (fun hc92 => ?_) (fun hc92 => ?_)
        ·
         have hc92 := of_decide_eq_true hc92
         exfalso
         first | omega | (simp at hc92; done) | (simp at hc92; omega) | (simp_all; done) | (simp_all; omega)
        ·
         have hc92 := of_decide_eq_false hc92
         refine Lyg (y_indexAddrA (hu := by exact Tryz.runUnderlying38) (hs := by exact Tryz.sizeOf3) (k := 1) (hi := by first | rfl | omega) (hl := by first | decide | omega)) ?_
         refine Lyg (y_load (ha := by exact Tryz.isAgg3)) ?_
         refine Lyg y_gtr ?_
         refine Ly y_pick_false ?_
         refine Ly y_move ?_
         refine WL.split (d := 97) (by rfl) (fun hc97 => ?_) (fun hc97 => ?_)
         ·
          have hc97 := of_decide_eq_true hc97
          exfalso
          first | omega | (simp at hc97; done) | (simp at hc97; omega) | (simp_all; done) | (simp_all; omega)
         ·
          have hc97 := of_decide_eq_false hc97
          refine Lyg (y_indexAddrA (hu := by exact Tryz.runUnderlying38) (hs := by exact Tryz.sizeOf3) (k := 0) (hi := by first | rfl | omega) (hl := by first | decide | omega)) ?_
          refine Lyg (y_load (ha := by exact Tryz.isAgg3)) ?_
          refine Lyg (y_indexAddrA (hu := by exact Tryz.runUnderlying38) (hs := by exact Tryz.sizeOf3) (k := 1) (hi := by first | rfl | omega) (hl := by first | decide | omega)) ?_
          refine Lyg (y_load (ha := by exact Tryz.isAgg3)) ?_
          refine Lyg y_eql ?_
          refine Ly y_pick_false ?_
          refine WL.done ?_
          refine Kcond (ht := fun hc103 => ?_) (hf := fun hc103 => ?_)
          ·
           have hc103 := of_decide_eq_true hc103
           exfalso
           first | omega | (simp at hc103; done) | (simp at hc103; omega) | (simp_all; done) | (simp_all; omega)
          ·
           have hc103 := of_decide_eq_false hc103
           refine WK.skip ?_
           refine WK.seq ?_
           refine WK.region ?_
           refine Ly y_assign ?_
           refine WL.done ?_
           refine WK.seq ?_
           refine WK.seq ?_
           refine WK.region ?_
           refine Ly y_assign ?_
           refine WL.done ?_
           refine WK.block ?_
           refine WK.sat (fun w s => Sat.nilSl s true 78 2) ?_
           refine Kloop (ι := Nat × Option Addr × Nat) (fun x => x.1 ≤ 4) (fun x => [(9, .slice oad 1 ocap), (11, .slice (some ⟨b33, 0, none⟩) 2 2), (12, .slice (some ⟨b42, 0, none⟩) 2 2), (13, .int .i64 (i : Int)), (14, .int .i64 (j : Int)), (15, .int .i64 a), (16, .pointer (some ⟨b16, 0, none⟩)), (17, .slice (some ⟨lb, 0, none⟩) 1 1), (18, .int .i64 0), (19, .slice x.2.1 (wantM st a x.1).length x.2.2), (20, .int .i64 (x.1 : Int))]) (fun x => sl true 78 2 x.2.1 (wantM st a x.1).length x.2.2 (flat amtC (wantM st a x.1)) :: row true b16 38 [.int .i64 s.1, .int .i64 s.2] :: sl true 75 5 (some ⟨lb, 0, none⟩) 1 1 (legC s.1 a s.2 lad am.length lc) :: sl true 78 2 lad am.length lc (flat amtC am) :: sl true 55 1 oad 1 ocap [.pointer (some ⟨q, 0, none⟩)] :: ledP q st k :: sl true 3 1 (some ⟨b33, 0, none⟩) 2 2 ([account, aroundM account 14].map (Value.int .i64)) :: sl true 38 2 (some ⟨b42, 0, none⟩) 2 2 (flat prC [(shard, to), (aroundM shard 13, aroundM to 13)]) :: slr 1 ad len (l.map (Value.int .i64)) :: F) (fun x => 4 - x.1) ((0, none, 0)) (Nat.zero_le _) (round := ?_)
           rintro ⟨it, wad, wcap⟩ hit N3 hN3
           dsimp only at hit ⊢
           have hwl := wantM_len st a it
           refine WK.seq ?_
           refine WK.seq ?_
           refine WK.region ?_
           refine Ly y_move ?_
           refine Ly y_lss ?_
           refine WL.done ?_
           refine Kcond (ht := fun hc112 => ?_) (hf := fun hc112 => ?_)
           ·
            have hc112 := of_decide_eq_true hc112
            refine WK.skip ?_
            refine WK.seq ?_
            refine WK.block ?_
            refine WK.seq ?_
            refine WK.region ?_
            refine Ly y_move ?_
            refine Ly (y_indexAddrS (hu := by exact Tryz.runUnderlying52) (hz := by exact Tryz.sizeOf55) (j := 0) (hi := by first | rfl | omega) (hj' := by omega) (hj := by omega) (hr := by exact Nat.mul_one _)) ?_
            refine Ly (y_loadS (ha := by exact Tryz.isAgg55)) ?_
            refine Ly y_move ?_
            refine Ly y_move ?_
            refine Le (e_call (by exact Tryz.call31) (t := balanceL_spec q st k hinv (by omega) a (it : Int))) ?_
            rintro _ -
            rw [show totM ((kget st (a, (it : Int))).getD []) = balM st a (it : Int) from rfl]
            try dsimp only
            refine Ly y_assign ?_
            refine WL.done ?_
            refine WK.seq ?_
            refine WK.region ?_
            refine Ly y_move ?_
            refine Ly y_gtr ?_
            refine WL.done ?_
            refine Kcond (ht := fun hc122 => ?_) (hf := fun hc122 => ?_)
            ·
             have hc122 := of_decide_eq_true hc122
             refine WK.region ?_
             refine Ly y_move ?_
             refine Ly y_move ?_
             refine Ly y_move ?_
             refine Ly (y_build (hz := by exact Tryz.zeroValue78) (hu := by exact Tryz.runUnderlying78) (hp := by exact fun w => places78 w Tryz.underlying78) (hne := by first | decide | simp)) ?_
             refine Le (e_mkSlice1 (hu := by exact Tryz.runUnderlying73) (hk := by exact Tryz.sizeOf78) (hz := by exact Tryz.zeroValue78) (hk0 := by rfl) (hb := by decide) (h1 := by rfl)) ?_
             rintro b127 -
             try dsimp only
             refine Le (e_append (et := elem73) (htx := by exact Tryz.underlying73) (hb := by omega) (hm := by omega)) ?_
             rintro ⟨ad128, cap128⟩ -
             try dsimp only
             refine Ly y_assign ?_
             refine WL.done ?_
             refine WK.endBlock ?_
             refine WK.region ?_
             refine Ly y_move ?_
             refine Ly y_add ?_
             refine Ly y_assign ?_
             refine WL.done ?_
             apply WK.next hN3 (it + 1, ad128, cap128) (by dsimp only; omega) (by dsimp only; omega) (by repeat (first | exact KK.nil | refine KK.cons (by first | rfl | (simp only [wantM, if_pos hc122, List.length_append, List.length_singleton]; rfl) | (simp; done)) ?_))
             dsimp only
             rw [show wantM st a (it + 1) = wantM st a it ++ [⟨(it : Int), balM st a (it : Int)⟩] from if_pos hc122, List.length_append, flat_app, flat_one]
             exact (by repeat (first | exact SelL.nil | exact SelL.self | apply SelL.cons | exact Sel.here | apply Sel.there | apply SelL.skip))
            ·
             have hc122 := of_decide_eq_false hc122
             refine WK.skip ?_
             refine WK.endBlock ?_
             refine WK.region ?_
             refine Ly y_move ?_
             refine Ly y_add ?_
             refine Ly y_assign ?_
             refine WL.done ?_
             apply WK.next hN3 (it + 1, wad, wcap) (by dsimp only; omega) (by dsimp only; omega) (by repeat (first | exact KK.nil | refine KK.cons (by first | rfl | (simp only [wantM, if_neg hc122]; rfl) | (simp; done)) ?_))
             dsimp only
             rw [show wantM st a (it + 1) = wantM st a it from if_neg hc122]
             exact (by repeat (first | exact SelL.nil | exact SelL.self | apply SelL.cons | exact Sel.here | apply Sel.there | apply SelL.skip))
           ·
            have hc112 := of_decide_eq_false hc112
            obtain rfl : it = 4 := by omega
            have hw := want_eq hinv hpm hsr
            rw [← hw]
            refine WK.exit ?_
            repeat (first | refine XQ.then_ ?_ | refine XQ.block (by rfl) ?_)
            refine XQ.here ?_
            refine WK.seq ?_
            refine WK.seq ?_
            refine WK.region ?_
            refine Ly y_move ?_
            refine Ly (y_len (hu := by exact Tryz.runUnderlying73)) ?_
            refine Ly y_eql ?_
            refine WL.done ?_
            refine Kcond (ht := fun hc131 => ?_) (hf := fun hc131 => ?_)
            ·
             have hc131 := of_decide_eq_true hc131
             exfalso
             first | omega | (simp at hc131; done) | (simp at hc131; omega) | (simp_all; done) | (simp_all; omega)
            ·
             have hc131 := of_decide_eq_false hc131
             refine WK.skip ?_
             refine WK.seq ?_
             refine WK.seq ?_
             refine KdrQ (l := [(0, 0), (1, 0), (2, 0), (3, 0), (4, 0), (5, 0), (6, 0), (7, 0), (8, 0), (9, 0), (10, 0), (11, 0), (12, 0), (13, 0), (14, 0), (15, 0), (16, 0), (17, 0), (18, 0), (19, 0), (20, 0), (21, 0), (22, 0), (23, 0), (24, 0), (25, 0), (26, 0), (27, 0), (28, 0), (29, 0), (30, 0), (31, 0), (32, 0), (33, 0), (34, 0), (35, 0), (36, 0), (37, 0), (38, 0), (39, 0), (40, 0), (41, 0), (42, 0), (43, 0), (44, 0), (45, 0), (46, 0), (47, 0), (48, 0), (49, 0), (50, 0)]) (h := ?_)
             refine Oy (y := y_move) (h := ?_)
             refine Oy (y := y_neq) (h := ?_)
             refine Oy (y := y_move) (h := ?_)
             refine Oyg (y := y_move) (h := ?_)
             refine Oyg (y := y_len (hu := by exact Tryz.runUnderlying70)) (h := ?_)
             refine Oyg (y := y_neq) (h := ?_)
             refine Oy (y := y_pick_false) (h := ?_)
             refine Oy (y := y_move) (h := ?_)
             refine Oyg (y := y_move) (h := ?_)
             refine Oyg (y := y_indexAddrS (hu := by exact Tryz.runUnderlying70) (hz := by exact Tryz.sizeOf75) (j := 0) (hi := by first | rfl | omega) (hj' := by omega) (hj := by omega)) (h := ?_)
             refine Oyg (y := y_fieldAddrS (hu := by exact Tryz.runUnderlying75) (hs := by exact Tryz.sizeOf3)) (h := ?_)
             refine Oyg (y := y_loadS (ha := by exact Tryz.isAgg3)) (h := ?_)
             refine Oyg (y := y_indexAddrA (hu := by exact Tryz.runUnderlying38) (hs := by exact Tryz.sizeOf3) (k := 0) (hi := by first | rfl | omega) (hl := by first | decide | omega)) (h := ?_)
             refine Oyg (y := y_load (ha := by exact Tryz.isAgg3)) (h := ?_)
             refine Oyg (y := y_neq) (h := ?_)
             refine Oy (y := y_pick_false) (h := ?_)
             refine Oy (y := y_move) (h := ?_)
             refine WO.split (d := 155) (by rfl) (fun hc155 => ?_) (fun hc155 => ?_)
             ·
              have hc155 := of_decide_eq_true hc155
              exfalso
              exact hc155 rfl
             ·
              have hc155 := of_decide_eq_false hc155
              refine Oyg (y := y_move) (h := ?_)
              refine Oyg (y := y_indexAddrS (hu := by exact Tryz.runUnderlying70) (hz := by exact Tryz.sizeOf75) (j := 0) (hi := by first | rfl | omega) (hj' := by omega) (hj := by omega)) (h := ?_)
              refine Oyg (y := y_fieldAddrS (hu := by exact Tryz.runUnderlying75) (hs := by exact Tryz.sizeOf3)) (h := ?_)
              refine Oyg (y := y_loadS (ha := by exact Tryz.isAgg3)) (h := ?_)
              refine Oyg (y := y_indexAddrA (hu := by exact Tryz.runUnderlying38) (hs := by exact Tryz.sizeOf3) (k := 1) (hi := by first | rfl | omega) (hl := by first | decide | omega)) (h := ?_)
              refine Oyg (y := y_load (ha := by exact Tryz.isAgg3)) (h := ?_)
              refine Oyg (y := y_neq) (h := ?_)
              refine Oy (y := y_pick_false) (h := ?_)
              refine Oy (y := y_move) (h := ?_)
              refine WO.split (d := 164) (by rfl) (fun hc164 => ?_) (fun hc164 => ?_)
              ·
               have hc164 := of_decide_eq_true hc164
               exfalso
               exact hc164 rfl
              ·
               have hc164 := of_decide_eq_false hc164
               refine Oyg (y := y_move) (h := ?_)
               refine Oyg (y := y_indexAddrS (hu := by exact Tryz.runUnderlying70) (hz := by exact Tryz.sizeOf75) (j := 0) (hi := by first | rfl | omega) (hj' := by omega) (hj := by omega)) (h := ?_)
               refine Oyg (y := y_fieldAddrS (hu := by exact Tryz.runUnderlying75) (hs := by exact Tryz.sizeOf3)) (h := ?_)
               refine Oyg (y := y_loadS (ha := by exact Tryz.isAgg3)) (h := ?_)
               refine Oyg (y := y_move) (h := ?_)
               refine Oyg (y := y_neq) (h := ?_)
               refine Oy (y := y_pick_false) (h := ?_)
               refine Oy (y := y_move) (h := ?_)
               refine WO.split (d := 172) (by rfl) (fun hc172 => ?_) (fun hc172 => ?_)
               ·
                have hc172 := of_decide_eq_true hc172
                exfalso
                exact hc172 rfl
               ·
                have hc172 := of_decide_eq_false hc172
                refine Oyg (y := y_move) (h := ?_)
                refine Oyg (y := y_indexAddrS (hu := by exact Tryz.runUnderlying70) (hz := by exact Tryz.sizeOf75) (j := 0) (hi := by first | rfl | omega) (hj' := by omega) (hj := by omega)) (h := ?_)
                refine Oyg (y := y_fieldAddrS (hu := by exact Tryz.runUnderlying75) (hs := by exact Tryz.sizeOf3)) (h := ?_)
                refine Oyg (y := y_loadS (ha := by exact Tryz.isAgg3)) (h := ?_)
                refine Oyg (y := y_move) (h := ?_)
                refine Oyg (y := y_neq) (h := ?_)
                refine Oy (y := y_pick_false) (h := ?_)
                refine Oy (y := y_move) (h := ?_)
                refine WO.split (d := 180) (by rfl) (fun hc180 => ?_) (fun hc180 => ?_)
                ·
                 have hc180 := of_decide_eq_true hc180
                 exfalso
                 exact hc180 rfl
                ·
                 have hc180 := of_decide_eq_false hc180
                 refine Oyg (y := y_move) (h := ?_)
                 refine Oyg (y := y_indexAddrS (hu := by exact Tryz.runUnderlying70) (hz := by exact Tryz.sizeOf75) (j := 0) (hi := by first | rfl | omega) (hj' := by omega) (hj := by omega)) (h := ?_)
                 refine Oyg (y := y_fieldAddrS (hu := by exact Tryz.runUnderlying75) (hs := by exact Tryz.sizeOf73)) (h := ?_)
                 refine Oyg (y := y_loadS (ha := by exact Tryz.isAgg73)) (h := ?_)
                 refine Oyg (y := y_len (hu := by exact Tryz.runUnderlying73)) (h := ?_)
                 refine Oyg (y := y_move) (h := ?_)
                 refine Oyg (y := y_len (hu := by exact Tryz.runUnderlying73)) (h := ?_)
                 refine Oyg (y := y_neq) (h := ?_)
                 refine Oy (y := y_pick_false) (h := ?_)
                 refine WO.done ?_
                 refine Kcond (ht := fun hc189 => ?_) (hf := fun hc189 => ?_)
                 ·
                  have hc189 := of_decide_eq_true hc189
                  exfalso
                  exact hc189 rfl
                 ·
                  have hc189 := of_decide_eq_false hc189
                  refine WK.skip ?_
                  refine WK.seq ?_
                  refine WK.region ?_
                  refine Ly y_assign ?_
                  refine WL.done ?_
                  refine WK.block ?_
                  refine Kloop (ι := Nat) (fun u => u ≤ am.length) (fun u => [(9, .slice oad 1 ocap), (11, .slice (some ⟨b33, 0, none⟩) 2 2), (12, .slice (some ⟨b42, 0, none⟩) 2 2), (13, .int .i64 (i : Int)), (14, .int .i64 (j : Int)), (15, .int .i64 a), (16, .pointer (some ⟨b16, 0, none⟩)), (17, .slice (some ⟨lb, 0, none⟩) 1 1), (18, .int .i64 0), (19, .slice wad am.length wcap), (22, .int .i64 (u : Int))]) (fun _ => sl true 78 2 wad am.length wcap (flat amtC am) :: row true b16 38 [.int .i64 s.1, .int .i64 s.2] :: sl true 75 5 (some ⟨lb, 0, none⟩) 1 1 (legC s.1 a s.2 lad am.length lc) :: sl true 78 2 lad am.length lc (flat amtC am) :: sl true 55 1 oad 1 ocap [.pointer (some ⟨q, 0, none⟩)] :: ledP q st k :: sl true 3 1 (some ⟨b33, 0, none⟩) 2 2 ([account, aroundM account 14].map (Value.int .i64)) :: sl true 38 2 (some ⟨b42, 0, none⟩) 2 2 (flat prC [(shard, to), (aroundM shard 13, aroundM to 13)]) :: slr 1 ad len (l.map (Value.int .i64)) :: F) (fun u => am.length - u) (0) (Nat.zero_le _) (round := ?_)
                  rintro u hu N4 hN4
                  have haml : am.length ≤ 4 := by rw [hw]; exact wantM_len st a 4
                  refine WK.seq ?_
                  refine WK.seq ?_
                  refine WK.region ?_
                  refine Ly y_move ?_
                  refine Ly y_move ?_
                  refine Ly (y_len (hu := by exact Tryz.runUnderlying73)) ?_
                  refine Ly y_lss ?_
                  refine WL.done ?_
                  refine Kcond (ht := fun hc193 => ?_) (hf := fun hc193 => ?_)
                  ·
                   have hc193 := of_decide_eq_true hc193
                   obtain ⟨y, hy⟩ : ∃ x, am[u]? = some x := ⟨_, List.getElem?_eq_getElem (by omega)⟩
                   refine WK.skip ?_
                   refine WK.seq ?_
                   refine WK.block ?_
                   refine WK.seq ?_
                   refine KdrQ (l := [(0, 0), (1, 0), (2, 0), (3, 0), (4, 0), (5, 0), (6, 0), (7, 0), (8, 0), (9, 0), (10, 0), (11, 0)]) (h := ?_)
                   refine Oy (y := y_move) (h := ?_)
                   refine Oy (y := y_indexAddrS (hu := by exact Tryz.runUnderlying70) (hz := by exact Tryz.sizeOf75) (j := 0) (hi := by first | rfl | omega) (hj' := by omega) (hj := by omega)) (h := ?_)
                   refine Oy (y := y_fieldAddrS (hu := by exact Tryz.runUnderlying75) (hs := by exact Tryz.sizeOf73)) (h := ?_)
                   refine Oy (y := y_loadS (ha := by exact Tryz.isAgg73)) (h := ?_)
                   refine Oy (y := y_move) (h := ?_)
                   refine Oy (y := y_indexAddrS (hu := by exact Tryz.runUnderlying73) (hz := by exact Tryz.sizeOf78) (j := u) (hi := by first | rfl | omega) (hj' := by omega) (hj := by omega)) (h := ?_)
                   refine Oy (y := y_loadSA (ha := by exact Tryz.isAgg78) (hm := by exact Tryz.sizeOf78) (hv := by exact flat_cells amtC_len hy)) (h := ?_)
                   refine Oy (y := y_move) (h := ?_)
                   refine Oy (y := y_move) (h := ?_)
                   refine Oy (y := y_indexAddrS (hu := by exact Tryz.runUnderlying73) (hz := by exact Tryz.sizeOf78) (j := u) (hi := by first | rfl | omega) (hj' := by omega) (hj := by omega)) (h := ?_)
                   refine Oy (y := y_loadSA (ha := by exact Tryz.isAgg78) (hm := by exact Tryz.sizeOf78) (hv := by exact flat_cells amtC_len hy)) (h := ?_)
                   refine Oy (y := yld_neqS2 (by rfl) (by rfl) (by exact Tryz.runUnderlying78) (by kernel_rfl) (by kernel_rfl) (by decide) (by decide) (by rfl) (by rfl) (by exact Tryz.runUnderlying3) (by exact Tryz.runUnderlying3) (by exact Tryz.isAgg3) (by exact Tryz.isAgg3)) (h := ?_)
                   refine WO.done ?_
                   refine Kcond (ht := fun hc207 => ?_) (hf := fun hc207 => ?_)
                   ·
                    have hc207 := not_true_of hc207; have hc207 := of_decide_eq_false hc207
                    exfalso
                    exact hc207 ⟨rfl, rfl⟩
                   ·
                    have hc207 := not_false_of hc207; have hc207 := of_decide_eq_true hc207
                    refine WK.skip ?_
                    refine WK.endBlock ?_
                    refine WK.region ?_
                    refine Ly y_move ?_
                    refine Ly y_add ?_
                    refine Ly y_assign ?_
                    refine WL.done ?_
                    exact Knext hN4 (u + 1) (by omega) (by omega)
                  ·
                   have hc193 := of_decide_eq_false hc193
                   refine WK.exit ?_
                   repeat (first | refine XQ.then_ ?_ | refine XQ.block (by rfl) ?_)
                   refine XQ.here ?_
                   refine WK.endBlock ?_
                   refine WK.region ?_
                   refine Ly y_move ?_
                   refine Ly y_add ?_
                   refine Ly y_assign ?_
                   refine WL.done ?_
                   exact Knext hN2 (j + 1) (by omega) (by omega)
  ·
   have hc48 := of_decide_eq_false hc48
   refine WK.exit ?_
   repeat (first | refine XQ.then_ ?_ | refine XQ.block (by rfl) ?_)
   refine XQ.here ?_
   refine WK.endBlock ?_
   refine WK.region ?_
   refine Ly y_move ?_
   refine Ly y_add ?_
   refine Ly y_assign ?_
   refine WL.done ?_
   exact Knext hN (i + 1) (by omega) (by omega)
 ·
  have hc44 := of_decide_eq_false hc44
  refine WK.exit ?_
  repeat (first | refine XQ.then_ ?_ | refine XQ.block (by rfl) ?_)
  refine XQ.here ?_
  refine WK.seq ?_
  refine WK.region ?_
  refine Le (e_call (by exact Tryz.call17) (t := lives_spec)) ?_
  rintro _ -
  try dsimp only
  refine Ly y_assign ?_
  refine WL.done ?_
  refine WK.ret ?_
  repeat (first | refine RQ.block ?_ | refine RQ.then_ ?_)
  refine RQ.body (results1 (by rfl) (by rfl)) (fun w s => ?_)
  exact ⟨(), trivial, rfl, s.toCs (by repeat (first | exact SelL.nil | exact SelL.self | apply SelL.cons | exact Sel.here | apply Sel.there | apply SelL.skip))⟩
end Go.Proofs.YtkakfmcjiabjjaaGreatDoor
