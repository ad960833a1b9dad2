import Derived.Test.YtkakfmcjiabjjaaGreatDoorSrtA
namespace Go.Proofs.YtkakfmcjiabjjaaGreatDoor
set_option linter.unusedVariables false
set_option linter.unusedSimpArgs false
set_option linter.unusedSectionVars false
set_option linter.unnecessarySimpa false
open Go Go.Sep
attribute [local irreducible] row sl mapO held exL allR byt mapI slr mapK rangeK vec pack
abbrev Place := Int × Int
/-- What is in each place. -/
abbrev StkM := List (Place × List LotM)
def holdOf (x : Place × List LotM) : HoldM := ⟨x.1.1, x.1.2, totM x.2⟩
/-- The stacks' values, key by key beside the model's. -/
def stkV (ms : List (Place × Value)) (st : StkM) : HProp := allR (vec false 145 3 lotC) (ms.map (·.2)) (st.map (·.2))
structure StkOk (ms : List (Place × Value)) (st : StkM) : Prop where
  keys : ms.map (·.1) = st.map (·.1)
  nodup : (st.map (·.1)).Nodup
  lots : ∀ x ∈ st, VL x.2 ∧ x.2 ≠ []
  accs : ∀ x ∈ st, (1 ≤ x.1.1 ∧ x.1.1 ≤ 1073741824) ∧ (0 ≤ x.1.2 ∧ x.1.2 < 4)
theorem StkOk.len {ms : List (Place × Value)} {st : StkM} (h : StkOk ms st) : ms.length = st.length := by
  have := congrArg List.length h.keys
  simpa using this
theorem zipm_get {α β : Type} {l : List α} {m : List β} {z : α × β} (h : z ∈ l.zip m) : ∃ p : Nat, l[p]? = some z.1 ∧ m[p]? = some z.2 := by
  obtain ⟨p, hp⟩ := List.getElem?_of_mem h
  rw [List.getElem?_zip_eq_some] at hp
  exact ⟨p, hp⟩
theorem perm_erase {α : Type} : ∀ {l : List α} {i : Nat} {x : α}, l[i]? = some x → l.Perm (x :: l.eraseIdx i)
  | [], _, _, h => by simp at h
  | y :: l, 0, x, h => by cases h; exact .refl _
  | y :: l, i + 1, x, h => by
    have := perm_erase (l := l) (i := i) (x := x) (by simpa using h)
    exact (this.cons y).trans (.swap _ _ _)
theorem length_erase {α : Type} {l : List α} {i : Nat} {x : α} (h : l[i]? = some x) : (l.eraseIdx i).length + 1 = l.length := by
  have := (perm_erase h).length_eq
  simpa using this.symm
def zipS (ms : List (Place × Value)) (st : StkM) : List ((Place × Value) × (Place × List LotM)) := ms.zip st
theorem zipS_fst {ms : List (Place × Value)} {st : StkM} (h : ms.length = st.length) : (zipS ms st).map (·.1) = ms := List.map_fst_zip (by omega)
theorem zipS_snd {ms : List (Place × Value)} {st : StkM} (h : ms.length = st.length) : (zipS ms st).map (fun z => holdOf z.2) = st.map holdOf := by
  have : (zipS ms st).map (fun z => holdOf z.2) = ((zipS ms st).map (·.2)).map holdOf := by rw [List.map_map]; rfl
  rw [this, show (zipS ms st).map (·.2) = st from List.map_snd_zip (by omega)]
theorem holdOf_small {ms : List (Place × Value)} {st : StkM} (h : StkOk ms st) {l : List HoldM} (hp : l.Perm (st.map holdOf)) : ∀ x ∈ l, smallH x := fun x hx => by
  obtain ⟨y, hy, rfl⟩ := List.mem_map.1 (hp.mem_iff.1 hx)
  have := h.accs y hy
  exact ⟨⟨by show 0 ≤ y.1.1; omega, by show y.1.1 ≤ _; omega⟩, ⟨by show 0 ≤ y.1.2; omega, by show y.1.2 ≤ _; omega⟩⟩
def sortedH (l : List HoldM) : Prop := l.Pairwise (fun x y => ¬ cmpH y x < 0)
set_option maxRecDepth 20000 in
set_option maxHeartbeats 6000000 in
theorem holdings_spec (pl : Bool) (q : Nat) (sh : Int) (nf ns : Nat) (W : LedW) (ms : List (Place × Value)) (st : StkM) (hst : StkOk ms st) (h12 : st.length ≤ 12) :
  Triple Tryz.prog 29 #[.pointer (some ⟨q, 0, none⟩)] [row pl q 120 (ledRow sh nf ns W), mapK plE true W.sb ms, stkV ms st] (List HoldM × Option Addr × Nat) (fun x => x.1.Perm (st.map holdOf) ∧ sortedH x.1) (fun x => .slice x.2.1 x.1.length x.2.2) (fun x => [row pl q 120 (ledRow sh nf ns W), mapK plE true W.sb ms, stkV ms st, sl true 69 3 x.2.1 x.1.length x.2.2 (flat holdC x.1)]) := by
 refine Triple.of_body (args := [.pointer (some ⟨q, 0, none⟩)]) Tryz.func29 rfl Tryz.ntmps29 (by simp) (fun g F => ?_)
 dsimp only [numb, List.cons_append, List.nil_append]
 have hlen := hst.len
 refine WK.sat (fun w s => Sat.nilSl s true 69 3) ?_
 refine WK.seq ?_
 refine WK.region ?_
 refine Ly y_assign ?_
 refine WL.done ?_
 refine WK.seq ?_
 refine WK.region ?_
 refine Ly y_assign ?_
 refine WL.done ?_
 refine WK.seq ?_
 refine WK.seq ?_
 refine WK.region ?_
 refine Ly y_move ?_
 refine Ly y_nilCheck ?_
 refine Ly (y_fieldAddr (hu := by exact Tryz.runUnderlying120) (hs := by exact Tryz.sizeOf114)) ?_
 refine Ly (y_load (ha := by exact Tryz.isAgg114)) ?_
 refine Le (e_rangeK (hu := Tryz.runUnderlying114)) ?_
 rintro it10 -
 try dsimp only
 refine WL.done ?_
 refine WK.block ?_
 rw [show rangeK plE true W.sb it10 ms ms none = rangeK plE true W.sb it10 ms ((zipS ms st).map (·.1)) none from by rw [zipS_fst hlen]]
 refine Kloop (ι := List ((Place × Value) × (Place × List LotM)) × List HoldM × (Option Addr × Nat) × Option (Place × Value)) (fun x => (∀ z ∈ x.1, z ∈ zipS ms st) ∧ (x.2.1 ++ x.1.map (fun z => holdOf z.2)).Perm ((zipS ms st).map (fun z => holdOf z.2))) (fun x => [(0, .pointer (some ⟨q, 0, none⟩)), (3, .slice x.2.2.1.1 x.2.1.length x.2.2.1.2), (10, .pointer (some ⟨it10, 0, none⟩))]) (fun x => row pl q 120 (ledRow sh nf ns W) :: rangeK plE true W.sb it10 ms (x.1.map (·.1)) x.2.2.2 :: stkV ms st :: sl true 69 3 x.2.2.1.1 x.2.1.length x.2.2.1.2 (flat holdC x.2.1) :: F) (fun x => x.1.length) ((zipS ms st, [], (none, 0), none)) (⟨fun z hz => hz, .refl _⟩) (round := ?_)
 rintro ⟨tz, out, ⟨ad3, cap3⟩, cur⟩ ⟨hsub, hperm⟩ N hN
 dsimp only at hsub hperm ⊢
 refine WK.seq ?_
 refine WK.region ?_
 refine Le e_nextK ?_
 rintro x11 hx11
 try dsimp only
 rcases x11 with _ | ⟨i11, ⟨a11, t11⟩, v11⟩
 ·
  dsimp only at hx11 ⊢
  obtain rfl : tz = [] := by simpa using hx11
  simp only [List.map_nil, List.append_nil] at hperm
  refine Ly y_extract ?_
  refine WL.done ?_
  refine WK.seq ?_
  refine Kcond (ht := fun h => by cases h) (hf := fun _ => ?_)
  refine WK.exit ?_
  repeat (first | refine XQ.then_ ?_ | refine XQ.block (by rfl) ?_)
  refine XQ.here ?_
  refine WK.seq ?_
  refine WK.sat (fun w s => Sat.pack (l := []) s) ?_
  rw [zipS_snd hlen] at hperm
  have hol : out.length ≤ 12 := by
    have := hperm.length_eq
    rw [List.length_map] at this
    omega
  refine WK.region ?_
  refine Ly y_move ?_
  refine Le (e_call (by exact Tryz.call57) (t := sort12_hold _ [] (pack []) cmpH smallH hcmp_pred cmpH_swo ad3 out.length cap3 out hol (holdOf_small hst hperm))) ?_
  rintro hs ⟨hp, hsort⟩
  try dsimp only
  refine WL.done ?_
  refine WK.seq ?_
  refine WK.region ?_
  refine Ly y_move ?_
  refine Ly y_assign ?_
  refine WL.done ?_
  refine WK.ret ?_
  repeat (first | refine RQ.block ?_ | refine RQ.then_ ?_)
  refine RQ.body (results1 (by rfl) (by rfl)) (fun w s => ?_)
  have hll : hs.length = out.length := hp.length_eq
  refine ⟨(hs, ad3, cap3), ⟨hp.trans hperm, hsort⟩, by rw [hll], ?_⟩
  rw [hll]
  have s2 := Sat.rangeEndK (s.sel1 (A := rangeK plE true W.sb it10 ms [] cur) (by repeat (first | exact .here | apply Sel.there)))
  exact s2.toCs (by repeat (first | exact SelL.nil | exact SelL.self | apply SelL.cons | exact Sel.here | apply Sel.there | apply SelL.skip))
 ·
  dsimp only at hx11 ⊢
  obtain ⟨z, hz, hz1⟩ : ∃ z, tz[i11]? = some z ∧ z.1 = ((a11, t11), v11) := by
    rw [List.getElem?_map] at hx11
    cases hzz : tz[i11]? with
    | none => rw [hzz] at hx11; cases hx11
    | some z => rw [hzz] at hx11; exact ⟨z, rfl, Option.some.inj hx11⟩
  obtain ⟨p, hp1, hp2⟩ := zipm_get (hsub z (List.mem_of_getElem? hz))
  rw [hz1] at hp1
  have hkey : z.2.1 = (a11, t11) := by
    have e := congrArg (·[p]?) hst.keys
    simp only [List.getElem?_map, hp1, hp2, Option.map_some] at e
    exact (Option.some.inj e).symm
  have hVL := (hst.lots z.2 (List.mem_of_getElem? hp2)).1
  have hol : out.length ≤ 12 := by
    have := hperm.length_eq
    rw [zipS_snd hlen] at this
    simp only [List.length_append, List.length_map] at this
    omega
  refine Ly y_extract ?_
  refine WL.done ?_
  refine WK.seq ?_
  refine Kcond (ht := fun _ => ?_) (hf := fun h => by cases h)
  refine WK.skip ?_
  refine WK.block ?_
  refine WK.seq ?_
  refine WK.region ?_
  refine Ly y_entryK ?_
  refine Ly y_extract ?_
  refine Ly y_extract ?_
  refine Le (e_alloc (by exact Tryz.zeroValue116)) ?_
  rintro b4 -
  try dsimp only
  refine Le0 (e_store (hk := by exact Tryz.sizeOf116) (h1 := by rfl)) ?_
  rintro _ -
  try dsimp only
  refine Ly y_assign ?_
  refine WL.done ?_
  refine WK.sat (fun w s => Sat.allGet (fun v x => dup_vec _ _ v x) (i := p) (v := v11) (x := z.2.2) (by rw [List.getElem?_map, hp1]; rfl) (by rw [List.getElem?_map, hp2]; rfl) (s.sel1 (A := allR (vec false 145 3 lotC) (ms.map (·.2)) (st.map (·.2))) (by repeat (first | exact .here | apply Sel.there)))) ?_
  refine WK.openS (fun w s => Sat.vecOpen (s.sel1 (A := vec false 145 3 lotC v11 z.2.2) (by repeat (first | exact .here | apply Sel.there)))) ?_
  rintro ⟨oad, ocap⟩ hv11
  dsimp only at hv11 ⊢
  subst hv11
  refine Kdr (l := [(0, 0), (1, 0), (2, 0), (3, 0), (4, 0), (5, 0), (6, 1), (7, 0), (8, 1), (9, 1), (10, 0)]) (Cs := [row true b4 116 [.int .i64 a11, .int .i64 t11]]) (h := ?_)
  refine Oy (y := y_move) (h := ?_)
  refine Oy (y := y_fieldAddr (hu := by exact Tryz.runUnderlying116) (hs := by exact Tryz.sizeOf3)) (h := ?_)
  refine Oy (y := y_load (ha := by exact Tryz.isAgg3)) (h := ?_)
  refine Oy (y := y_fieldAddr (hu := by exact Tryz.runUnderlying116) (hs := by exact Tryz.sizeOf3)) (h := ?_)
  refine Oy (y := y_load (ha := by exact Tryz.isAgg3)) (h := ?_)
  refine Oy (y := y_move) (h := ?_)
  refine Oe (e := e_call (by exact Tryz.call56) (t := totalL_spec false oad z.2.2.length ocap z.2.2 (by have := hVL.1; omega) hVL)) (h := ?_)
  rintro _ -
  try dsimp only
  refine Oy (y := y_build (hz := by exact Tryz.zeroValue69) (hu := by exact Tryz.runUnderlying69) (hp := by exact fun w => places69 w Tryz.underlying69) (hne := by first | decide | simp)) (h := ?_)
  refine Oe (e := e_mkSlice1 (hu := by exact Tryz.runUnderlying66) (hk := by exact Tryz.sizeOf69) (hz := by exact Tryz.zeroValue69) (hk0 := by rfl) (hb := by decide) (h1 := by rfl)) (h := ?_)
  rintro b24 -
  try dsimp only
  refine Oe (e := e_append (et := elem66) (htx := by exact Tryz.underlying66) (hb := by omega) (hm := by omega)) (h := ?_)
  rintro ⟨ad25, cap25⟩ -
  try dsimp only
  refine Oy (y := y_assign) (h := ?_)
  refine WO.done ?_
  refine WK.endBlock ?_
  have hho : holdOf z.2 = ⟨a11, t11, totM z.2.2⟩ := by rw [holdOf, hkey]
  apply WK.next hN (tz.eraseIdx i11, out ++ [holdOf z.2], (ad25, cap25), some ((a11, t11), Value.slice oad z.2.2.length ocap)) ⟨fun y hy => hsub y (List.mem_of_mem_eraseIdx hy), ?_⟩ (by dsimp only; have := length_erase hz; omega) (by refine KK.cons rfl (KK.cons ?_ (KK.cons rfl KK.nil)); show some (Value.slice ad25 (out.length + 1) cap25) = some (Value.slice ad25 (out ++ [holdOf z.2]).length cap25); rw [List.length_append]; rfl)
  · dsimp only
    rw [List.length_append, flat_app, flat_one, map_erase, hho]
    exact (by repeat (first | exact SelL.nil | exact SelL.self | apply SelL.cons | exact Sel.here | apply Sel.there | apply SelL.skip))
  · dsimp only
    refine List.Perm.trans ?_ hperm
    rw [List.append_assoc]
    refine List.Perm.append_left _ ?_
    exact ((perm_erase hz).map (fun z => holdOf z.2)).symm
end Go.Proofs.YtkakfmcjiabjjaaGreatDoor
