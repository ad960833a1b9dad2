import Derived.Test.YtkakfmcjiabjjaaGreatDoorMovG
namespace Go.Proofs.YtkakfmcjiabjjaaGreatDoor
set_option linter.unusedVariables false
set_option linter.unusedSimpArgs false
set_option linter.unusedSectionVars false
set_option linter.unnecessarySimpa false
open Go Go.Sep
attribute [local irreducible] row sl mapO held exL allR byt mapI slr mapK rangeK vec pack
theorem findF_range {l : List HomeM} {a : Int} (h : ∀ x ∈ l, 0 ≤ x.shard ∧ x.shard < 12) {s : Int} (hs : 0 ≤ s ∧ s < 12) : 0 ≤ l.foldl (findF a) s ∧ l.foldl (findF a) s < 12 := by
  induction l generalizing s with
  | nil => exact hs
  | cons x l ih =>
    refine ih (fun y hy => h y (by simp [hy])) ?_
    unfold findF
    split
    · exact h x (by simp)
    · exact hs
theorem findM_range12 {l : List HomeM} (hv : VH 12 l) (a : Int) : 0 ≤ findM l a ∧ findM l a < 12 := findF_range (fun x hx => by
  obtain ⟨j, hj⟩ := List.getElem?_of_mem hx
  have := hv.2.2.2 j x hj
  omega) ⟨by omega, by omega⟩
def accOf (l : List HoldM) : List Int := (l.filter fun h => decide (h.account ≤ 1048575)).map (·.account)
theorem accOf_more {l : List HoldM} {i : Nat} {h : HoldM} (e : l[i]? = some h) : accOf (l.take (i + 1)) = if h.account ≤ 1048575 then accOf (l.take i) ++ [h.account] else accOf (l.take i) := by
  unfold accOf
  rw [List.take_add_one, e, List.filter_append, List.map_append]
  by_cases k : h.account ≤ 1048575
  · simp [k]
  · simp [k]
theorem accOf_len (l : List HoldM) : (accOf l).length ≤ l.length := by
  unfold accOf
  rw [List.length_map]
  exact List.length_filter_le _ _
theorem accOf_mem {l : List HoldM} {a : Int} : a ∈ accOf l ↔ (∃ h ∈ l, h.account = a) ∧ a ≤ 1048575 := by
  unfold accOf
  rw [List.mem_map]
  constructor
  · rintro ⟨h, hh, rfl⟩
    rw [List.mem_filter] at hh
    exact ⟨⟨h, hh.1, rfl⟩, by simpa using hh.2⟩
  · rintro ⟨⟨h, hh, rfl⟩, h2⟩
    exact ⟨h, List.mem_filter.2 ⟨hh, by simpa using h2⟩, rfl⟩
abbrev LegM := List AmtM × (Option Addr × Nat) × Nat
def legVal (y : Int × LegM) : Value := .slice (some ⟨y.2.2.2, 0, none⟩) 1 1
def legR (s : Int) (m2 : List HomeM) (v : Value) (y : Int × LegM) : HProp := exL (ι := Unit) (fun _ => v = legVal y ∧ y.2.1 ≠ []) (fun _ => [legP s y.1 (findM m2 y.1) y.2])
theorem Sat.legShut {g w : World} {Ps : List HProp} {s : Int} {m2 : List HomeM} {y : Int × LegM} (hne : y.2.1 ≠ []) (h : Sat g w (legP s y.1 (findM m2 y.1) y.2 :: Ps)) : Sat g w (legR s m2 (legVal y) y :: Ps) :=
  Sat.exShut (ι := Unit) () ⟨rfl, hne⟩ h
/-- What is known of a leg's amounts. -/
def legOk (st : StkM) (y : Int × LegM) : Prop := y.2.1 ≠ [] ∧ y.2.1.Perm (amOf y.1 (st.map holdOf)) ∧ sortedA y.2.1
structure PlanM (st : StkM) (m1 m2 : List HomeM) (s : Int) (out : List (Int × LegM)) : Prop where
  inc : IncI (out.map (·.1))
  mem : ∀ a, a ∈ out.map (·.1) ↔ (∃ x ∈ st, x.1.1 = a) ∧ a ≤ 1048575 ∧ findM m1 a ≠ findM m2 a ∧ findM m1 a = s
  ok : ∀ y ∈ out, legOk st y
theorem amOf_some {a : Int} {l : List HoldM} (h : ∃ x ∈ l, x.account = a) : amOf a l ≠ [] := fun e => by
  obtain ⟨x, hx, rfl⟩ := h
  have : (⟨x.item, x.n⟩ : AmtM) ∈ amOf x.account l := List.mem_map.2 ⟨x, List.mem_filter.2 ⟨hx, by simp⟩, rfl⟩
  rw [e] at this
  cases this
def atS (m1 : List HomeM) (s a : Int) : Bool := decide (findM m1 a = s)
theorem plan_done {st : StkM} {m1 m2 : List HomeM} {s : Int} {hs : List HoldM} {mv : List Int} {out : List (Int × LegM)} (hp : hs.Perm (st.map holdOf)) (hm : MovesM m1 m2 (accOf hs) mv) (ho : out.map (·.1) = mv.filter (atS m1 s)) (hk : ∀ y ∈ out, legOk st y) : PlanM st m1 m2 s out := by
  refine ⟨?_, fun a => ?_, hk⟩
  · rw [ho]
    exact List.Pairwise.sublist List.filter_sublist hm.inc
  · rw [ho, List.mem_filter, hm.mem, accOf_mem, atS, decide_eq_true_eq]
    have : (∃ h ∈ hs, h.account = a) ↔ ∃ x ∈ st, x.1.1 = a := by
      constructor
      · rintro ⟨h, hh, rfl⟩
        obtain ⟨x, hx, rfl⟩ := List.mem_map.1 (hp.mem_iff.1 hh)
        exact ⟨x, hx, rfl⟩
      · rintro ⟨x, hx, rfl⟩
        exact ⟨holdOf x, hp.mem_iff.2 (List.mem_map.2 ⟨x, hx, rfl⟩), rfl⟩
    rw [this]
    constructor
    · rintro ⟨⟨⟨h1, h2⟩, h3⟩, h4⟩; exact ⟨h1, h2, h3, h4⟩
    · rintro ⟨h1, h2, h3, h4⟩; exact ⟨⟨⟨h1, h2⟩, h3⟩, h4⟩
theorem filter_more' {l : List Int} {i : Nat} {x : Int} (h : l[i]? = some x) (q : Int → Bool) : (l.take (i + 1)).filter q = if q x = true then (l.take i).filter q ++ [x] else (l.take i).filter q := filter_more h q
theorem inc_sub_len : ∀ {l m : List Int}, IncI l → (∀ a ∈ l, a ∈ m) → l.length ≤ m.length
  | [], _, _, _ => by simp
  | x :: l, m, h, hs => by
    have hx := hs x (by simp)
    have h1 := List.pairwise_cons.1 h
    have ih := inc_sub_len (l := l) (m := m.erase x) h1.2 fun a ha => by
      have hne : a ≠ x := by have := h1.1 a ha; omega
      exact (List.mem_erase_of_ne hne).2 (hs a (by simp [ha]))
    have := List.length_erase_of_mem hx
    have hp : 0 < m.length := List.length_pos_of_mem hx
    simp only [List.length_cons]
    omega
theorem elem63 : ElemT Tryz.prog 63 70 1 24 := ⟨Tryz.underlying63, ⟨Tryz.t70, _, by kernel_rfl, rfl, rfl, rfl, rfl⟩⟩
set_option maxRecDepth 20000 in
set_option maxHeartbeats 8000000 in
theorem plan_spec (NN : Nat) (hsort : SortI NN) (hN12 : 12 ≤ NN) (hN2 : NN ≤ 100000) (pl : Bool) (q : Nat) (sh : Int) (nf ns : Nat) (W : LedW) (ms : List (Place × Value)) (st : StkM) (hst : StkOk ms st) (h12 : st.length ≤ 12) (p1 p2 : Bool) (ad1 ad2 : Option Addr) (len1 len2 cap1 cap2 : Nat) (m1 m2 : List HomeM) (hl1 : len1 ≤ 100000) (hl2 : len2 ≤ 100000) (s1 : Int) :
  Triple Tryz.prog 28 #[.pointer (some ⟨q, 0, none⟩), .int .i64 s1, .slice ad1 len1 cap1, .slice ad2 len2 cap2] [row pl q 120 (ledRow sh nf ns W), mapK plE true W.sb ms, stkV ms st, sl p1 84 2 ad1 len1 cap1 (homesC m1), sl p2 84 2 ad2 len2 cap2 (homesC m2)] (Option (List (Int × LegM) × Option Addr × Nat)) (fun x => match x with | none => ¬ ((0 ≤ s1 ∧ s1 < 12) ∧ VH 12 m1 ∧ VH 12 m2) | some y => ((0 ≤ s1 ∧ s1 < 12) ∧ VH 12 m1 ∧ VH 12 m2) ∧ PlanM st m1 m2 s1 y.1) (fun x => match x with | none => .tuple #[.slice none 0 0, .int .i64 1] | some y => .tuple #[.slice y.2.1 y.1.length y.2.2, .int .i64 0]) (fun x => match x with | none => [row pl q 120 (ledRow sh nf ns W), mapK plE true W.sb ms, stkV ms st, sl p1 84 2 ad1 len1 cap1 (homesC m1), sl p2 84 2 ad2 len2 cap2 (homesC m2)] | some y => [sl true 70 1 y.2.1 y.1.length y.2.2 (y.1.map legVal), allR (legR s1 m2) (y.1.map legVal) y.1, row pl q 120 (ledRow sh nf ns W), mapK plE true W.sb ms, stkV ms st, sl p1 84 2 ad1 len1 cap1 (homesC m1), sl p2 84 2 ad2 len2 cap2 (homesC m2)]) := by
 refine Triple.of_body (args := [.pointer (some ⟨q, 0, none⟩), .int .i64 s1, .slice ad1 len1 cap1, .slice ad2 len2 cap2]) Tryz.func28 rfl Tryz.ntmps28 (by simp) (fun g F => ?_)
 dsimp only [numb, List.cons_append, List.nil_append]
 refine WK.seq ?_
 refine WK.region ?_
 refine Ly y_assign ?_
 refine Ly y_assign ?_
 refine WL.done ?_
 refine WK.seq ?_
 refine WK.seq ?_
 refine WK.region ?_
 refine Ly y_move ?_
 refine Le (e_mkSlice1 (hu := by exact Tryz.runUnderlying22) (hk := by exact Tryz.sizeOf3) (hz := by exact Tryz.zeroValue3) (hk0 := by rfl) (hb := by decide) (h1 := by rfl)) ?_
 rintro b25 -
 try dsimp only
 refine Le (e_call (by exact Tryz.call39) (t := (shards_spec (some ⟨b25, 0, none⟩) 1 1 [s1] (by decide)))) ?_
 rintro _ -
 try dsimp only
 refine Ly y_not ?_
 refine WL.done ?_
 refine Kcond (ht := fun hc27 => ?_) (hf := fun hc27 => ?_)
 ·
  refine WK.seq ?_
  refine WK.region ?_
  refine Ly y_assign ?_
  refine Ly y_assign ?_
  refine WL.done ?_
  refine WK.ret ?_
  repeat (first | refine RQ.block ?_ | refine RQ.then_ ?_)
  refine RQ.body (results2 (by rfl) (by rfl) (by rfl)) (fun w s => ?_)
  refine ⟨none, ?_, rfl, s.toCs (by repeat (first | exact SelL.nil | exact SelL.self | apply SelL.cons | exact Sel.here | apply Sel.there | apply SelL.skip))⟩
  rintro ⟨h1, -⟩
  simp at hc27
  omega
 ·
  have hs1 : 0 ≤ s1 ∧ s1 < 12 := by simp at hc27; omega
  refine WK.skip ?_
  refine WK.seq ?_
  refine WK.region ?_
  refine Ly y_assign ?_
  refine WL.done ?_
  refine WK.seq ?_
  refine WK.seq ?_
  refine WK.region ?_
  refine Ly y_move ?_
  refine Le (e_call (by exact Tryz.call29) (t := holdings_spec pl q sh nf ns W ms st hst h12)) ?_
  rintro ⟨hs, had, hcap⟩ ⟨hp, hsh⟩
  dsimp only at hp hsh ⊢
  have hhl : hs.length ≤ 12 := by have := hp.length_eq; rw [List.length_map] at this; omega
  have hacs : ∀ h ∈ hs, 1 ≤ h.account ∧ h.account ≤ 1073741824 := fun h hh => by
    obtain ⟨x, hx, rfl⟩ := List.mem_map.1 (hp.mem_iff.1 hh)
    exact (hst.accs x hx).1
  have hacc : ∀ a ∈ accOf hs, 1 ≤ a ∧ a ≤ 1073741824 := fun a ha => by
    obtain ⟨⟨h, hh, rfl⟩, _⟩ := accOf_mem.1 ha
    exact hacs h hh
  refine WL.sat (fun w s => Sat.nilSl s true 3 1) ?_
  try dsimp only
  refine Ly (y_len (hu := by exact Tryz.runUnderlying66)) ?_
  refine Ly y_move ?_
  refine WL.done ?_
  refine WK.block ?_
  refine Kloop (ι := Nat × Option Addr × Nat) (fun x => x.1 ≤ hs.length) (fun x => [(0, .pointer (some ⟨q, 0, none⟩)), (1, .int .i64 s1), (2, .slice ad1 len1 cap1), (3, .slice ad2 len2 cap2), (10, .slice x.2.1 (accOf (hs.take x.1)).length x.2.2), (29, .slice had hs.length hcap), (30, .int .i64 (hs.length : Int)), (31, .int .i64 (x.1 : Int))]) (fun x => sl true 3 1 x.2.1 (accOf (hs.take x.1)).length x.2.2 ((accOf (hs.take x.1)).map (Value.int .i64)) :: sl true 69 3 had hs.length hcap (flat holdC hs) :: row pl q 120 (ledRow sh nf ns W) :: mapK plE true W.sb ms :: stkV ms st :: sl p1 84 2 ad1 len1 cap1 (homesC m1) :: sl p2 84 2 ad2 len2 cap2 (homesC m2) :: F) (fun x => hs.length - x.1) ((0, none, 0)) (Nat.zero_le _) (round := ?_)
  rintro ⟨i, ad10, cap10⟩ hi N hN
  dsimp only at hi ⊢
  have hal := accOf_len (hs.take i)
  rw [List.length_take] at hal
  refine WK.seq ?_
  refine WK.region ?_
  refine Ly y_lss ?_
  refine WL.done ?_
  refine WK.seq ?_
  refine Kcond (ht := fun hc32 => ?_) (hf := fun hc32 => ?_)
  ·
   have hc32 := of_decide_eq_true hc32
   obtain ⟨h, hx⟩ : ∃ x, hs[i]? = some x := ⟨_, List.getElem?_eq_getElem (by omega)⟩
   refine WK.skip ?_
   refine WK.seq ?_
   refine WK.block ?_
   refine WK.seq ?_
   refine WK.region ?_
   refine Ly (y_indexAddrS (hu := by exact Tryz.runUnderlying66) (hz := by exact Tryz.sizeOf69) (j := i) (hi := by first | rfl | omega) (hj' := by omega) (hj := by omega)) ?_
   refine Ly (y_loadSA (ha := by exact Tryz.isAgg69) (hm := by exact Tryz.sizeOf69) (hv := by exact flat_cells holdC_len hx)) ?_
   refine Le (e_alloc (by exact Tryz.zeroValue69)) ?_
   rintro b12 -
   try dsimp only
   refine Le0 (e_store (hk := by exact Tryz.sizeOf69) (h1 := by rfl)) ?_
   rintro _ -
   try dsimp only
   refine WL.done ?_
   refine WK.seq ?_
   refine WK.region ?_
   refine Ly (y_fieldAddr (hu := by exact Tryz.runUnderlying69) (hs := by exact Tryz.sizeOf3)) ?_
   refine Ly (y_load (ha := by exact Tryz.isAgg3)) ?_
   refine Le (e_call (by exact Tryz.call34) (t := account_spec h.account)) ?_
   rintro _ -
   rw [decide_eq_true (hacs h (List.mem_of_getElem? hx))]
   try dsimp only
   refine Ly y_move ?_
   refine Lyg (y_fieldAddr (hu := by exact Tryz.runUnderlying69) (hs := by exact Tryz.sizeOf3)) ?_
   refine Lyg (y_load (ha := by exact Tryz.isAgg3)) ?_
   refine Lyg y_leq ?_
   refine Ly y_pick_true ?_
   refine WL.done ?_
   refine Kcond (ht := fun hc42 => ?_) (hf := fun hc42 => ?_)
   ·
    have hc42 := of_decide_eq_true hc42
    refine WK.region ?_
    refine Ly y_move ?_
    refine Ly (y_fieldAddr (hu := by exact Tryz.runUnderlying69) (hs := by exact Tryz.sizeOf3)) ?_
    refine Ly (y_load (ha := by exact Tryz.isAgg3)) ?_
    refine Le (e_mkSlice1 (hu := by exact Tryz.runUnderlying22) (hk := by exact Tryz.sizeOf3) (hz := by exact Tryz.zeroValue3) (hk0 := by rfl) (hb := by decide) (h1 := by rfl)) ?_
    rintro b46 -
    try dsimp only
    refine Le (e_append (et := elem22) (htx := by exact Tryz.underlying22) (hb := by omega) (hm := by omega)) ?_
    rintro ⟨ad47, cap47⟩ -
    try dsimp only
    refine Ly y_assign ?_
    refine WL.done ?_
    refine WK.endBlock ?_
    refine WK.region ?_
    refine Ly y_add ?_
    refine Ly y_move ?_
    refine WL.done ?_
    apply WK.next hN (i + 1, ad47, cap47) (by dsimp only; omega) (by dsimp only; omega) (by refine KK.cons rfl (KK.cons rfl (KK.cons rfl (KK.cons rfl (KK.cons ?_ (KK.cons rfl (KK.cons rfl (KK.cons rfl KK.nil))))))); show some (Value.slice ad47 ((accOf (hs.take i)).length + 1) cap47) = some (Value.slice ad47 (accOf (hs.take (i + 1))).length cap47); rw [accOf_more hx, if_pos hc42, List.length_append]; rfl)
    dsimp only
    rw [accOf_more hx, if_pos hc42, List.length_append, List.map_append]
    exact (by repeat (first | exact SelL.nil | exact SelL.self | apply SelL.cons | exact Sel.here | apply Sel.there | apply SelL.skip))
   ·
    have hc42 := of_decide_eq_false hc42
    refine WK.skip ?_
    refine WK.endBlock ?_
    refine WK.region ?_
    refine Ly y_add ?_
    refine Ly y_move ?_
    refine WL.done ?_
    apply WK.next hN (i + 1, ad10, cap10) (by dsimp only; omega) (by dsimp only; omega) (by refine KK.cons rfl (KK.cons rfl (KK.cons rfl (KK.cons rfl (KK.cons ?_ (KK.cons rfl (KK.cons rfl (KK.cons rfl KK.nil))))))); show some (Value.slice ad10 (accOf (hs.take i)).length cap10) = some (Value.slice ad10 (accOf (hs.take (i + 1))).length cap10); rw [accOf_more hx, if_neg hc42])
    dsimp only
    rw [accOf_more hx, if_neg hc42]
    exact (by repeat (first | exact SelL.nil | exact SelL.self | apply SelL.cons | exact Sel.here | apply Sel.there | apply SelL.skip))
  ·
   have hc32 := of_decide_eq_false hc32
   obtain rfl : i = hs.length := by omega
   rw [List.take_length] at *
   refine WK.exit ?_
   repeat (first | refine XQ.then_ ?_ | refine XQ.block (by rfl) ?_)
   refine XQ.here ?_
   refine WK.seq ?_
   refine WK.region ?_
   refine Ly y_move ?_
   refine Ly y_move ?_
   refine Ly y_move ?_
   refine Le (e_call (by exact Tryz.call24) (t := moving_spec NN hsort p1 p2 ad1 ad2 len1 len2 cap1 cap2 m1 m2 hl1 hl2 true ad10 (accOf hs).length cap10 (accOf hs) (by have := accOf_len hs; omega) hN2)) ?_
   rintro x53 hx53
   try dsimp only
   refine Ly y_move ?_
   rcases x53 with _ | ⟨mv, mad, mcap⟩
   ·
    dsimp only at hx53 ⊢
    refine Ly y_extract ?_
    refine Ly y_extract ?_
    refine Ly y_assign ?_
    refine Ly y_assign ?_
    refine WL.done ?_
    refine WK.seq ?_
    refine WK.seq ?_
    refine WK.region ?_
    refine Ly y_move ?_
    refine Ly y_neq ?_
    refine WL.done ?_
    refine Kcond (ht := fun _ => ?_) (hf := fun h => by cases h)
    refine WK.seq ?_
    refine WK.region ?_
    refine Ly y_move ?_
    refine Ly y_assign ?_
    refine Ly y_assign ?_
    refine WL.done ?_
    refine WK.ret ?_
    repeat (first | refine RQ.block ?_ | refine RQ.then_ ?_)
    refine RQ.body (results2 (by rfl) (by rfl) (by rfl)) (fun w s => ?_)
    refine ⟨none, ?_, rfl, s.toCs (by repeat (first | exact SelL.nil | exact SelL.self | apply SelL.cons | exact Sel.here | apply Sel.there | apply SelL.skip))⟩
    rintro ⟨h1, h2, h3⟩
    exact hx53 ⟨h2, h3, hacc⟩
   ·
    dsimp only at hx53 ⊢
    obtain ⟨hmok, hmv⟩ := hx53
    have hmvl : mv.length ≤ 100000 := by
      have h0 := accOf_len hs
      refine Nat.le_trans (inc_sub_len hmv.inc fun a ha => ((hmv.mem a).1 ha).1) ?_
      omega
    refine Ly y_extract ?_
    refine Ly y_extract ?_
    refine Ly y_assign ?_
    refine Ly y_assign ?_
    refine WL.done ?_
    refine WK.seq ?_
    refine WK.seq ?_
    refine WK.region ?_
    refine Ly y_move ?_
    refine Ly y_neq ?_
    refine WL.done ?_
    refine Kcond (ht := fun h => by cases h) (hf := fun _ => ?_)
    refine WK.skip ?_
    refine WK.seq ?_
    refine WK.region ?_
    refine Ly y_assign ?_
    refine WL.done ?_
    refine WK.seq ?_
    refine WK.seq ?_
    refine WK.region ?_
    refine Ly y_move ?_
    refine Ly (y_len (hu := by exact Tryz.runUnderlying22)) ?_
    refine Ly y_move ?_
    refine WL.done ?_
    refine WK.block ?_
    refine WK.sat (fun w s => Sat.allNil (Rl := legR s1 m2) (Sat.nilSl s true 70 1)) ?_
    refine Kloop (ι := Nat × (Option Addr × Nat) × List (Int × LegM)) (fun x => x.1 ≤ mv.length ∧ x.2.2.map (·.1) = (mv.take x.1).filter (atS m1 s1) ∧ ∀ y ∈ x.2.2, legOk st y) (fun x => [(0, .pointer (some ⟨q, 0, none⟩)), (1, .int .i64 s1), (2, .slice ad1 len1 cap1), (3, .slice ad2 len2 cap2), (15, .slice x.2.1.1 x.2.2.length x.2.1.2), (59, .slice mad mv.length mcap), (60, .int .i64 (mv.length : Int)), (61, .int .i64 (x.1 : Int))]) (fun x => sl true 70 1 x.2.1.1 x.2.2.length x.2.1.2 (x.2.2.map legVal) :: allR (legR s1 m2) (x.2.2.map legVal) x.2.2 :: sl true 3 1 mad mv.length mcap (mv.map (Value.int .i64)) :: sl true 3 1 ad10 (accOf hs).length cap10 ((accOf hs).map (Value.int .i64)) :: row pl q 120 (ledRow sh nf ns W) :: mapK plE true W.sb ms :: stkV ms st :: sl p1 84 2 ad1 len1 cap1 (homesC m1) :: sl p2 84 2 ad2 len2 cap2 (homesC m2) :: F) (fun x => mv.length - x.1) ((0, (none, 0), [])) (⟨Nat.zero_le _, rfl, fun y hy => by cases hy⟩) (round := ?_)
    rintro ⟨i, ⟨ad15, cap15⟩, out⟩ ⟨hi, ho, hok⟩ N hN
    dsimp only at hi ho hok ⊢
    have hol : out.length ≤ mv.length := by
      have h1 := congrArg List.length ho
      have h2 := List.length_filter_le (atS m1 s1) (mv.take i)
      rw [List.length_take] at h2
      rw [List.length_map] at h1
      omega
    refine WK.seq ?_
    refine WK.region ?_
    refine Ly y_lss ?_
    refine WL.done ?_
    refine WK.seq ?_
    refine Kcond (ht := fun hc62 => ?_) (hf := fun hc62 => ?_)
    ·
     have hc62 := of_decide_eq_true hc62
     obtain ⟨a, hx⟩ : ∃ x, mv[i]? = some x := ⟨_, List.getElem?_eq_getElem (by omega)⟩
     have hmem := (hmv.mem a).1 (List.mem_of_getElem? hx)
     have har := hacc a hmem.1
     refine WK.skip ?_
     refine WK.seq ?_
     refine WK.block ?_
     refine WK.seq ?_
     refine WK.region ?_
     refine Ly (y_indexAddrS (hu := by exact Tryz.runUnderlying22) (hz := by exact Tryz.sizeOf3) (j := i) (hi := by first | rfl | omega) (hj' := by omega) (hj := by omega) (hr := by exact Nat.mul_one _)) ?_
     refine Ly (y_loadS (ha := by exact Tryz.isAgg3) (hv := (by rw [List.getElem?_map, hx]; rfl))) ?_
     refine Ly y_assign ?_
     refine WL.done ?_
     refine WK.seq ?_
     refine WK.seq ?_
     refine WK.region ?_
     refine Ly y_move ?_
     refine Ly y_move ?_
     refine Le (e_call (by exact Tryz.call15) (t := find_spec p1 ad1 len1 cap1 m1 (by omega) a)) ?_
     rintro _ -
     rw [if_pos ⟨hmok.1, har⟩]
     try dsimp only
     refine Ly y_move ?_
     refine Ly y_extract ?_
     refine Ly y_extract ?_
     refine Ly y_assign ?_
     refine Ly y_assign ?_
     refine WL.done ?_
     refine WK.seq ?_
     refine WK.region ?_
     refine Ly y_move ?_
     refine Ly y_move ?_
     refine Ly y_neq ?_
     refine WL.done ?_
     refine Kcond (ht := fun hc73 => ?_) (hf := fun hc73 => ?_)
     ·
      have hc73 := of_decide_eq_true hc73
      refine WK.exit ?_
      repeat (first | refine XQ.then_ ?_ | refine XQ.block (by rfl) ?_)
      refine XQ.here ?_
      refine WK.region ?_
      refine Ly y_add ?_
      refine Ly y_move ?_
      refine WL.done ?_
      refine Knext hN (i + 1, (ad15, cap15), out) ⟨by dsimp only; omega, ?_, hok⟩ (by dsimp only; omega)
      dsimp only
      rw [filter_more' hx, if_neg (by unfold atS; rw [decide_eq_false hc73]; simp), ho]
     ·
      have hc73 := of_decide_eq_false hc73
      refine WK.skip ?_
      refine WK.seq ?_
      refine WK.region ?_
      refine Ly y_move ?_
      refine Ly y_move ?_
      refine Le (e_call (by exact Tryz.call15) (t := find_spec p2 ad2 len2 cap2 m2 (by omega) a)) ?_
      rintro _ -
      rw [if_pos ⟨hmok.2.1, har⟩]
      try dsimp only
      refine Ly y_move ?_
      refine Ly y_extract ?_
      refine Ly y_extract ?_
      refine Ly y_assign ?_
      refine Ly y_assign ?_
      refine WL.done ?_
      refine WK.seq ?_
      refine WK.region ?_
      refine Ly y_move ?_
      refine Ly y_move ?_
      refine Ly y_move ?_
      refine Ly y_move ?_
      refine Le (e_call (by exact Tryz.call30) (t := legs_spec pl q sh nf ns W ms st hst h12 s1 a (findM m2 a) har hs1 (findM_range12 hmok.2.1 a) (by rw [← Classical.byContradiction hc73]; exact hmem.2))) ?_
      rintro ⟨am, lad, lb⟩ ⟨hxp, hxs⟩
      dsimp only at hxp hxs ⊢
      obtain ⟨y0, r0, rfl⟩ : ∃ y0 r0, am = y0 :: r0 := by
        cases am with
        | nil => exact absurd (hxp.symm.eq_nil) (amOf_some (by obtain ⟨⟨h, hh, he⟩, _⟩ := accOf_mem.1 hmem.1; exact ⟨h, hp.mem_iff.1 hh, he⟩))
        | cons y0 r0 => exact ⟨y0, r0, rfl⟩
      rw [show legV (y0 :: r0, lad, lb) = .tuple #[.slice (some ⟨lb, 0, none⟩) 1 1, .int .i64 0] from rfl]
      try dsimp only
      refine Ly y_move ?_
      refine Ly y_extract ?_
      refine Ly y_extract ?_
      refine Ly y_assign ?_
      refine Ly y_assign ?_
      refine WL.done ?_
      refine WK.region ?_
      refine Ly y_move ?_
      refine Ly y_move ?_
      refine Le (e_mkSlice1 (hu := by exact Tryz.runUnderlying63) (hk := by exact Tryz.sizeOf70) (hz := by exact Tryz.zeroValue70) (hk0 := by rfl) (hb := by decide) (h1 := by rfl)) ?_
      rintro b90 -
      try dsimp only
      refine Le (e_append (et := elem63) (htx := by exact Tryz.underlying63) (hb := by have := hmvl; omega) (hm := by have := hmvl; omega)) ?_
      rintro ⟨ad91, cap91⟩ -
      try dsimp only
      refine Ly y_assign ?_
      refine WL.done ?_
      refine WK.endBlock ?_
      refine WK.region ?_
      refine Ly y_add ?_
      refine Ly y_move ?_
      refine WL.done ?_
      have hc73 : findM m1 a = s1 := Classical.byContradiction hc73
      refine WK.sat (fun w s => Sat.legShut (s := s1) (m2 := m2) (y := (a, (y0 :: r0, lad, lb))) (by simp) (s.sel1 (A := legP s1 a (findM m2 a) (y0 :: r0, lad, lb)) (by repeat (first | exact .here | apply Sel.there)))) ?_
      refine WK.sat (fun w s => Sat.allSnoc (s.sel (As := [allR (legR s1 m2) (out.map legVal) out, legR s1 m2 (legVal (a, (y0 :: r0, lad, lb))) (a, (y0 :: r0, lad, lb))]) (by repeat (first | exact SelL.nil | exact SelL.self | apply SelL.cons | exact Sel.here | apply Sel.there | apply SelL.skip)))) ?_
      apply WK.next hN (i + 1, (ad91, cap91), out ++ [(a, (y0 :: r0, lad, lb))]) ⟨by dsimp only; omega, ?_, ?_⟩ (by dsimp only; omega) (by refine KK.cons rfl (KK.cons rfl (KK.cons rfl (KK.cons rfl (KK.cons ?_ (KK.cons rfl (KK.cons rfl (KK.cons rfl KK.nil))))))); show some (Value.slice ad91 (out.length + 1) cap91) = some (Value.slice ad91 (out ++ [(a, (y0 :: r0, lad, lb))]).length cap91); rw [List.length_append]; rfl)
      · dsimp only
        rw [List.length_append, List.map_append]
        exact (by repeat (first | exact SelL.nil | exact SelL.self | apply SelL.cons | exact Sel.here | apply Sel.there | apply SelL.skip))
      · dsimp only
        rw [filter_more' hx, if_pos (by unfold atS; rw [decide_eq_true hc73]), List.map_append, ho]
        rfl
      · intro y hy
        rcases List.mem_append.1 hy with hy | hy
        · exact hok y hy
        · obtain rfl : y = (a, (y0 :: r0, lad, lb)) := by simpa using hy
          exact ⟨by simp, hxp, hxs⟩
    ·
     have hc62 := of_decide_eq_false hc62
     refine WK.exit ?_
     repeat (first | refine XQ.then_ ?_ | refine XQ.block (by rfl) ?_)
     refine XQ.here ?_
     refine WK.seq ?_
     refine WK.region ?_
     refine Ly y_move ?_
     refine Ly y_assign ?_
     refine Ly y_assign ?_
     refine WL.done ?_
     refine WK.ret ?_
     repeat (first | refine RQ.block ?_ | refine RQ.then_ ?_)
     refine RQ.body (results2 (by rfl) (by rfl) (by rfl)) (fun w s => ?_)
     obtain rfl : i = mv.length := by omega
     rw [List.take_length] at ho
     exact ⟨some (out, ad15, cap15), ⟨⟨hs1, hmok.1, hmok.2.1⟩, plan_done hp hmv ho hok⟩, rfl, s.toCs (by repeat (first | exact SelL.nil | exact SelL.self | apply SelL.cons | exact Sel.here | apply Sel.there | apply SelL.skip))⟩
end Go.Proofs.YtkakfmcjiabjjaaGreatDoor
