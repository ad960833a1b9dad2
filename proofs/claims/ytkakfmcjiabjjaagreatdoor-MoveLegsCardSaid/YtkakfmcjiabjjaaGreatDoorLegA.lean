import Derived.Test.YtkakfmcjiabjjaaGreatDoorHoldA
import Derived.Test.YtkakfmcjiabjjaaGreatDoorMoveF
namespace Go.Proofs.YtkakfmcjiabjjaaGreatDoor
set_option linter.unusedVariables false
set_option linter.unusedSimpArgs false
set_option linter.unusedSectionVars false
set_option linter.unnecessarySimpa false
open Go Go.Sep
attribute [local irreducible] row sl mapO held exL allR byt mapI slr mapK rangeK vec pack
structure AmtM where
  item : Int
  n : Int
def amtC (x : AmtM) : List Value := [.int .i64 x.item, .int .i64 x.n]
theorem amtC_len : ∀ x, (amtC x).length = 2 := fun _ => rfl
def cmpA (x y : AmtM) : Int := x.item - y.item
theorem cmpA_swo : SWOc cmpA := ⟨fun x y => by unfold cmpA; omega, fun x y z => by unfold cmpA; omega⟩
def smallA (x : AmtM) : Prop := 0 ≤ x.item ∧ x.item ≤ 4294967296
def amOf (a : Int) (l : List HoldM) : List AmtM := (l.filter fun h => decide (h.account = a)).map fun h => ⟨h.item, h.n⟩
theorem amOf_more {a : Int} {l : List HoldM} {i : Nat} {h : HoldM} (e : l[i]? = some h) : amOf a (l.take (i + 1)) = if h.account = a then amOf a (l.take i) ++ [⟨h.item, h.n⟩] else amOf a (l.take i) := by
  unfold amOf
  rw [List.take_add_one, e, List.filter_append, List.map_append]
  by_cases k : h.account = a
  · simp [k]
  · simp [k]
theorem amOf_len (a : Int) (l : List HoldM) : (amOf a l).length ≤ l.length := by
  unfold amOf
  rw [List.length_map]
  exact List.length_filter_le _ _
theorem amOf_perm {a : Int} {l m : List HoldM} (h : l.Perm m) : (amOf a l).Perm (amOf a m) := (h.filter _).map _
theorem amOf_small {a : Int} {l : List HoldM} (h : ∀ x ∈ l, smallH x) : ∀ x ∈ amOf a l, smallA x := fun x hx => by
  unfold amOf at hx
  obtain ⟨y, hy, rfl⟩ := List.mem_map.1 hx
  exact (h y (List.mem_filter.1 hy).1).2
def sortedA (l : List AmtM) : Prop := l.Pairwise (fun x y => ¬ cmpA y x < 0)
theorem elem73 : ElemT Tryz.prog 73 78 2 16 := ⟨Tryz.underlying73, ⟨Tryz.t78, _, by kernel_rfl, rfl, rfl, rfl, rfl⟩⟩
theorem elem70 : ElemT Tryz.prog 70 75 5 56 := ⟨Tryz.underlying70, ⟨Tryz.t75, _, by kernel_rfl, rfl, rfl, rfl, rfl⟩⟩
theorem places78 (w : World) : ∀ {fs : Array Field}, Tryz.prog.underlying 78 = some (.struct fs) → Sem.run Tryz.prog (fs.mapM fun f => Prod.mk f.offset <$> sizeOf f.type) w = .ok #[(0, 1), (1, 1)] w := by
  intro fs h
  rw [Tryz.underlying78] at h
  cases h
  simp
theorem places75 (w : World) : ∀ {fs : Array Field}, Tryz.prog.underlying 75 = some (.struct fs) → Sem.run Tryz.prog (fs.mapM fun f => Prod.mk f.offset <$> sizeOf f.type) w = .ok #[(0, 1), (1, 1), (2, 1), (3, 1), (4, 1)] w := by
  intro fs h
  rw [Tryz.underlying75] at h
  cases h
  simp
set_option maxRecDepth 20000 in
set_option maxHeartbeats 4000000 in
theorem insort_amt (f : FuncId) (caps : List Value) (X : HProp) (c : AmtM → AmtM → Int) (S : AmtM → Prop) (hp : CmpF Tryz.prog f caps X (fun x => Value.agg (amtC x).toArray) S c) (hw : SWOc c) (ad : Option Addr) (len cap : Nat) (l : List AmtM) (hlen : len ≤ 1000000) (hS : ∀ x ∈ l, S x) :
  Triple Tryz.prog 109 #[.slice ad len cap, .int .i64 0, .int .i64 (len : Int), .func (.func f) #[] caps.toArray] [sl true 78 2 ad len cap (flat amtC l), X] (List AmtM) (fun l2 => l2.Perm l ∧ l2.Pairwise (fun x y => ¬ c y x < 0)) (fun _ => .tuple #[]) (fun l2 => [sl true 78 2 ad len cap (flat amtC l2), X]) := by
 refine Triple.of_body (args := [.slice ad len cap, .int .i64 0, .int .i64 (len : Int), .func (.func f) #[] caps.toArray]) Tryz.func109 rfl Tryz.ntmps109 (by simp) (fun g F => ?_)
 dsimp only [numb, List.cons_append, List.nil_append]
 refine WK.know (fun w s => Sat.slLen (s.sel1 (A := sl true 78 2 ad len cap (flat amtC l)) (by repeat (first | exact .here | apply Sel.there)))) (fun hkn => ?_)
 obtain ⟨n1, -⟩ := hkn
 rw [flat_len amtC_len] at n1
 replace n1 : l.length = _ := Nat.eq_of_mul_eq_mul_right (by omega) n1
 refine WK.seq ?_
 refine WK.region ?_
 refine Ly y_move ?_
 refine Ly y_add ?_
 refine Ly y_assign ?_
 refine WL.done ?_
 refine WK.block ?_
 refine Kloop (ι := Nat × List AmtM) (fun x => 1 ≤ x.1 ∧ x.1 ≤ max 1 len ∧ x.2.Perm l ∧ SrtN c x.2 x.1) (fun x => [(0, .slice ad len cap), (1, .int .i64 0), (2, .int .i64 (len : Int)), (3, .func (.func f) #[] caps.toArray), (8, .int .i64 (x.1 : Int))]) (fun x => sl true 78 2 ad len cap (flat amtC x.2) :: X :: F) (fun x => len + 1 - x.1) ((1, l)) (⟨Nat.le_refl _, by omega, .refl _, fun p q x y h1 h2 => by omega⟩) (round := ?_)
 rintro ⟨i, cur⟩ ⟨hi1, hi2, hpm, hsr⟩ N hN
 dsimp only at hi1 hi2 hpm hsr ⊢
 have hcl := hpm.length_eq
 refine WK.seq ?_
 refine WK.seq ?_
 refine WK.region ?_
 refine Ly y_move ?_
 refine Ly y_move ?_
 refine Ly y_lss ?_
 refine WL.done ?_
 refine Kcond (ht := fun hc14 => ?_) (hf := fun hc14 => ?_)
 ·
  have hc14 := of_decide_eq_true hc14
  refine WK.skip ?_
  refine WK.seq ?_
  refine WK.block ?_
  refine WK.seq ?_
  refine WK.region ?_
  refine Ly y_move ?_
  refine Ly y_assign ?_
  refine WL.done ?_
  refine WK.block ?_
  refine Kloop (ι := Nat × List AmtM) (fun x => Ins c l x.2 i x.1) (fun x => [(0, .slice ad len cap), (1, .int .i64 0), (2, .int .i64 (len : Int)), (3, .func (.func f) #[] caps.toArray), (8, .int .i64 (i : Int)), (9, .int .i64 (x.1 : Int))]) (fun x => sl true 78 2 ad len cap (flat amtC x.2) :: X :: F) (fun x => x.1) ((i, cur)) (Ins.start hpm hsr) (round := ?_)
  rintro ⟨j, cur⟩ hI N2 hN2
  dsimp only at hI ⊢
  have hcl := hI.perm.length_eq
  have hji := hI.le
  refine WK.seq ?_
  refine WK.seq ?_
  refine Kdr (l := [(0, 0), (1, 0), (2, 0), (3, 0), (4, 0), (5, 0), (6, 0), (7, 0), (8, 0), (9, 0), (10, 0), (11, 0), (12, 0), (13, 0), (14, 1), (15, 0), (16, 0)]) (Cs := [sl true 78 2 ad len cap (flat amtC cur)]) (h := ?_)
  refine Oy (y := y_move) (h := ?_)
  refine Oy (y := y_move) (h := ?_)
  refine Oy (y := y_gtr) (h := ?_)
  refine Oy (y := y_move) (h := ?_)
  refine WO.split (d := 21) (by rfl) (fun hc21 => ?_) (fun hc21 => ?_)
  ·
   have hc21 := of_decide_eq_true hc21
   obtain ⟨x, hx⟩ : ∃ x, cur[j]? = some x := ⟨_, List.getElem?_eq_getElem (by omega)⟩
   obtain ⟨y, hy⟩ : ∃ x, cur[j - 1]? = some x := ⟨_, List.getElem?_eq_getElem (by omega)⟩
   have hSx := hS x (hI.perm.mem_iff.1 (List.mem_of_getElem? hx))
   have hSy := hS y (hI.perm.mem_iff.1 (List.mem_of_getElem? hy))
   refine Oyg (y := y_move) (h := ?_)
   refine Oyg (y := y_move) (h := ?_)
   refine Oyg (y := y_move) (h := ?_)
   refine Oyg (y := y_indexAddrS (hu := by exact Tryz.runUnderlying73) (hz := by exact Tryz.sizeOf78) (j := j) (hi := by first | rfl | omega) (hj' := by omega) (hj := by omega)) (h := ?_)
   refine Oyg (y := y_loadSA (ha := by exact Tryz.isAgg78) (hm := by exact Tryz.sizeOf78) (hv := by exact flat_cells amtC_len hx)) (h := ?_)
   refine Oyg (y := y_move) (h := ?_)
   refine Oyg (y := y_move) (h := ?_)
   refine Oyg (y := y_sub) (h := ?_)
   refine Oyg (y := y_indexAddrS (hu := by exact Tryz.runUnderlying73) (hz := by exact Tryz.sizeOf78) (j := j - 1) (hi := by first | rfl | omega) (hj' := by omega) (hj := by omega)) (h := ?_)
   refine Oyg (y := y_loadSA (ha := by exact Tryz.isAgg78) (hm := by exact Tryz.sizeOf78) (hv := by exact flat_cells amtC_len hy)) (h := ?_)
   refine Oeg (e := e_callV (f := f) (hc := hp.call) (he := by rfl) (t := hp.spec x y hSx hSy)) (h := ?_)
   rintro _ -
   try dsimp only
   refine Oyg (y := y_lss) (h := ?_)
   refine Oy (y := y_pick_true) (h := ?_)
   refine WO.done ?_
   refine Kcond (ht := fun hc34 => ?_) (hf := fun hc34 => ?_)
   ·
    have hc34 := of_decide_eq_true hc34
    refine WK.skip ?_
    refine WK.seq ?_
    refine WK.block ?_
    refine WK.cut (ι := Unit) (fun _ => True) (fun _ => [(0, .slice ad len cap), (1, .int .i64 0), (2, .int .i64 (len : Int)), (3, .func (.func f) #[] caps.toArray), (8, .int .i64 (i : Int)), (9, .int .i64 (j : Int))]) (fun _ => sl true 78 2 ad len cap (flat amtC ((cur.set j y).set (j - 1) x)) :: X :: F) ?_ ?_
    ·
     rintro _ -
     refine WK.endBlock ?_
     refine WK.region ?_
     refine Ly y_move ?_
     refine Ly y_sub ?_
     refine Ly y_assign ?_
     refine WL.done ?_
     exact Knext hN2 (j - 1, (cur.set j y).set (j - 1) x) (hI.step hw (by omega) hx hy hc34) (by dsimp only; omega) (hK := by refine KK.cons rfl (KK.cons rfl (KK.cons rfl (KK.cons rfl (KK.cons rfl (KK.cons ?_ KK.nil))))); show some (Value.int .i64 ((j : Int) - 1)) = some (Value.int .i64 ((j - 1 : Nat) : Int)); rw [show ((j - 1 : Nat) : Int) = (j : Int) - 1 from by omega])
    ·
     intro JR6
     refine KdrT (t := OT.q 0 (OT.q 1 (OT.q 2 (OT.q 3 (OT.q 4 (OT.q 5 (OT.q 6 (OT.q 7 (OT.q 10 (OT.q 11 (OT.alt 8 (OT.alt 9 (OT.e 12 (OT.e 13 (OT.e 14 (OT.e 15 (OT.e 16 (OT.e 17 OT.done)))))) (OT.alt 12 (OT.alt 9 (OT.e 13 (OT.e 14 (OT.e 15 (OT.e 16 (OT.e 17 OT.done))))) (OT.alt 13 (OT.e 9 (OT.e 14 (OT.e 15 (OT.e 16 (OT.e 17 OT.done))))) OT.stop)) OT.stop)) (OT.alt 12 (OT.alt 8 (OT.alt 9 (OT.e 13 (OT.e 14 (OT.e 15 (OT.e 16 (OT.e 17 OT.done))))) (OT.alt 13 (OT.e 9 (OT.e 14 (OT.e 15 (OT.e 16 (OT.e 17 OT.done))))) OT.stop)) (OT.alt 13 (OT.e 8 (OT.e 9 (OT.e 14 (OT.e 15 (OT.e 16 (OT.e 17 OT.done)))))) OT.stop)) OT.stop)))))))))))) (Cs := []) (h := ?_)
     refine Ty (y := y_move) (h := ?_)
     refine Ty (y := y_move) (h := ?_)
     refine Ty (y := y_move) (h := ?_)
     refine Ty (y := y_move) (h := ?_)
     refine Ty (y := y_sub) (h := ?_)
     refine Ty (y := y_move) (h := ?_)
     refine Ty (y := y_move) (h := ?_)
     refine Ty (y := y_sub) (h := ?_)
     refine Ty (y := y_move) (h := ?_)
     refine Ty (y := y_move) (h := ?_)
     refine WT.alt ?_ ?_
     ·
      refine Te (e := Yld.eff (yld_indexAddrS (by rfl) (by rfl) (by exact Tryz.runUnderlying73) (by exact Tryz.sizeOf78) (by repeat (first | exact .here | apply Sel.there)) (j - 1) (by first | rfl | omega) (by omega) (by omega) (by rfl))) (h := ?_)
      rintro _ -
      try dsimp only
      refine WT.alt ?_ ?_
      ·
       refine Te (e := Yld.eff (yld_loadSA (by rfl) (by exact Tryz.isAgg78) (by exact Tryz.sizeOf78) (by repeat (first | exact .here | apply Sel.there)) (by exact flat_cells amtC_len hy))) (h := ?_)
       rintro _ -
       try dsimp only
       refine Te (e := Yld.eff (yld_indexAddrS (by rfl) (by rfl) (by exact Tryz.runUnderlying73) (by exact Tryz.sizeOf78) (by repeat (first | exact .here | apply Sel.there)) (j) (by first | rfl | omega) (by omega) (by omega) (by rfl))) (h := ?_)
       rintro _ -
       try dsimp only
       refine Te (e := Yld.eff (yld_loadSA (by rfl) (by exact Tryz.isAgg78) (by exact Tryz.sizeOf78) (by repeat (first | exact .here | apply Sel.there)) (by exact flat_cells amtC_len hx))) (h := ?_)
       rintro _ -
       try dsimp only
       refine Te (e := Yld.eff (yld_indexAddrS (by rfl) (by rfl) (by exact Tryz.runUnderlying73) (by exact Tryz.sizeOf78) (by repeat (first | exact .here | apply Sel.there)) (j) (by first | rfl | omega) (by omega) (by omega) (by rfl))) (h := ?_)
       rintro _ -
       try dsimp only
       refine Te0 (e := e_storeS (hm := by exact Tryz.sizeOf78) (h1 := by rfl) (hne := by first | (simp; done) | (intro h; cases h)) (hl' := by exact setAts_flat amtC_len (by omega))) (h := ?_)
       rintro _ -
       try dsimp only
       refine Te (e := Yld.eff (yld_indexAddrS (by rfl) (by rfl) (by exact Tryz.runUnderlying73) (by exact Tryz.sizeOf78) (by repeat (first | exact .here | apply Sel.there)) (j - 1) (by first | rfl | omega) (by omega) (by omega) (by rfl))) (h := ?_)
       rintro _ -
       try dsimp only
       refine Te0 (e := e_storeS (hm := by exact Tryz.sizeOf78) (h1 := by rfl) (hne := by first | (simp; done) | (intro h; cases h)) (hl' := by exact setAts_flat amtC_len (by rw [List.length_set]; omega))) (h := ?_)
       rintro _ -
       try dsimp only
       refine WT.done ?_
       exact Kgoto JR6 () trivial
      refine WT.alt ?_ ?_
      ·
       refine Te (e := Yld.eff (yld_indexAddrS (by rfl) (by rfl) (by exact Tryz.runUnderlying73) (by exact Tryz.sizeOf78) (by repeat (first | exact .here | apply Sel.there)) (j) (by first | rfl | omega) (by omega) (by omega) (by rfl))) (h := ?_)
       rintro _ -
       try dsimp only
       refine WT.alt ?_ ?_
       ·
        refine Te (e := Yld.eff (yld_loadSA (by rfl) (by exact Tryz.isAgg78) (by exact Tryz.sizeOf78) (by repeat (first | exact .here | apply Sel.there)) (by exact flat_cells amtC_len hy))) (h := ?_)
        rintro _ -
        try dsimp only
        refine Te (e := Yld.eff (yld_loadSA (by rfl) (by exact Tryz.isAgg78) (by exact Tryz.sizeOf78) (by repeat (first | exact .here | apply Sel.there)) (by exact flat_cells amtC_len hx))) (h := ?_)
        rintro _ -
        try dsimp only
        refine Te (e := Yld.eff (yld_indexAddrS (by rfl) (by rfl) (by exact Tryz.runUnderlying73) (by exact Tryz.sizeOf78) (by repeat (first | exact .here | apply Sel.there)) (j) (by first | rfl | omega) (by omega) (by omega) (by rfl))) (h := ?_)
        rintro _ -
        try dsimp only
        refine Te0 (e := e_storeS (hm := by exact Tryz.sizeOf78) (h1 := by rfl) (hne := by first | (simp; done) | (intro h; cases h)) (hl' := by exact setAts_flat amtC_len (by omega))) (h := ?_)
        rintro _ -
        try dsimp only
        refine Te (e := Yld.eff (yld_indexAddrS (by rfl) (by rfl) (by exact Tryz.runUnderlying73) (by exact Tryz.sizeOf78) (by repeat (first | exact .here | apply Sel.there)) (j - 1) (by first | rfl | omega) (by omega) (by omega) (by rfl))) (h := ?_)
        rintro _ -
        try dsimp only
        refine Te0 (e := e_storeS (hm := by exact Tryz.sizeOf78) (h1 := by rfl) (hne := by first | (simp; done) | (intro h; cases h)) (hl' := by exact setAts_flat amtC_len (by rw [List.length_set]; omega))) (h := ?_)
        rintro _ -
        try dsimp only
        refine WT.done ?_
        exact Kgoto JR6 () trivial
       refine WT.alt ?_ ?_
       ·
        refine Te (e := Yld.eff (yld_loadSA (by rfl) (by exact Tryz.isAgg78) (by exact Tryz.sizeOf78) (by repeat (first | exact .here | apply Sel.there)) (by exact flat_cells amtC_len hx))) (h := ?_)
        rintro _ -
        try dsimp only
        refine Te (e := Yld.eff (yld_loadSA (by rfl) (by exact Tryz.isAgg78) (by exact Tryz.sizeOf78) (by repeat (first | exact .here | apply Sel.there)) (by exact flat_cells amtC_len hy))) (h := ?_)
        rintro _ -
        try dsimp only
        refine Te (e := Yld.eff (yld_indexAddrS (by rfl) (by rfl) (by exact Tryz.runUnderlying73) (by exact Tryz.sizeOf78) (by repeat (first | exact .here | apply Sel.there)) (j) (by first | rfl | omega) (by omega) (by omega) (by rfl))) (h := ?_)
        rintro _ -
        try dsimp only
        refine Te0 (e := e_storeS (hm := by exact Tryz.sizeOf78) (h1 := by rfl) (hne := by first | (simp; done) | (intro h; cases h)) (hl' := by exact setAts_flat amtC_len (by omega))) (h := ?_)
        rintro _ -
        try dsimp only
        refine Te (e := Yld.eff (yld_indexAddrS (by rfl) (by rfl) (by exact Tryz.runUnderlying73) (by exact Tryz.sizeOf78) (by repeat (first | exact .here | apply Sel.there)) (j - 1) (by first | rfl | omega) (by omega) (by omega) (by rfl))) (h := ?_)
        rintro _ -
        try dsimp only
        refine Te0 (e := e_storeS (hm := by exact Tryz.sizeOf78) (h1 := by rfl) (hne := by first | (simp; done) | (intro h; cases h)) (hl' := by exact setAts_flat amtC_len (by rw [List.length_set]; omega))) (h := ?_)
        rintro _ -
        try dsimp only
        refine WT.done ?_
        exact Kgoto JR6 () trivial
       exact WT.stop
      exact WT.stop
     refine WT.alt ?_ ?_
     ·
      refine Te (e := Yld.eff (yld_indexAddrS (by rfl) (by rfl) (by exact Tryz.runUnderlying73) (by exact Tryz.sizeOf78) (by repeat (first | exact .here | apply Sel.there)) (j) (by first | rfl | omega) (by omega) (by omega) (by rfl))) (h := ?_)
      rintro _ -
      try dsimp only
      refine WT.alt ?_ ?_
      ·
       refine Te (e := Yld.eff (yld_indexAddrS (by rfl) (by rfl) (by exact Tryz.runUnderlying73) (by exact Tryz.sizeOf78) (by repeat (first | exact .here | apply Sel.there)) (j - 1) (by first | rfl | omega) (by omega) (by omega) (by rfl))) (h := ?_)
       rintro _ -
       try dsimp only
       refine WT.alt ?_ ?_
       ·
        refine Te (e := Yld.eff (yld_loadSA (by rfl) (by exact Tryz.isAgg78) (by exact Tryz.sizeOf78) (by repeat (first | exact .here | apply Sel.there)) (by exact flat_cells amtC_len hy))) (h := ?_)
        rintro _ -
        try dsimp only
        refine Te (e := Yld.eff (yld_loadSA (by rfl) (by exact Tryz.isAgg78) (by exact Tryz.sizeOf78) (by repeat (first | exact .here | apply Sel.there)) (by exact flat_cells amtC_len hx))) (h := ?_)
        rintro _ -
        try dsimp only
        refine Te (e := Yld.eff (yld_indexAddrS (by rfl) (by rfl) (by exact Tryz.runUnderlying73) (by exact Tryz.sizeOf78) (by repeat (first | exact .here | apply Sel.there)) (j) (by first | rfl | omega) (by omega) (by omega) (by rfl))) (h := ?_)
        rintro _ -
        try dsimp only
        refine Te0 (e := e_storeS (hm := by exact Tryz.sizeOf78) (h1 := by rfl) (hne := by first | (simp; done) | (intro h; cases h)) (hl' := by exact setAts_flat amtC_len (by omega))) (h := ?_)
        rintro _ -
        try dsimp only
        refine Te (e := Yld.eff (yld_indexAddrS (by rfl) (by rfl) (by exact Tryz.runUnderlying73) (by exact Tryz.sizeOf78) (by repeat (first | exact .here | apply Sel.there)) (j - 1) (by first | rfl | omega) (by omega) (by omega) (by rfl))) (h := ?_)
        rintro _ -
        try dsimp only
        refine Te0 (e := e_storeS (hm := by exact Tryz.sizeOf78) (h1 := by rfl) (hne := by first | (simp; done) | (intro h; cases h)) (hl' := by exact setAts_flat amtC_len (by rw [List.length_set]; omega))) (h := ?_)
        rintro _ -
        try dsimp only
        refine WT.done ?_
        exact Kgoto JR6 () trivial
       refine WT.alt ?_ ?_
       ·
        refine Te (e := Yld.eff (yld_loadSA (by rfl) (by exact Tryz.isAgg78) (by exact Tryz.sizeOf78) (by repeat (first | exact .here | apply Sel.there)) (by exact flat_cells amtC_len hx))) (h := ?_)
        rintro _ -
        try dsimp only
        refine Te (e := Yld.eff (yld_loadSA (by rfl) (by exact Tryz.isAgg78) (by exact Tryz.sizeOf78) (by repeat (first | exact .here | apply Sel.there)) (by exact flat_cells amtC_len hy))) (h := ?_)
        rintro _ -
        try dsimp only
        refine Te (e := Yld.eff (yld_indexAddrS (by rfl) (by rfl) (by exact Tryz.runUnderlying73) (by exact Tryz.sizeOf78) (by repeat (first | exact .here | apply Sel.there)) (j) (by first | rfl | omega) (by omega) (by omega) (by rfl))) (h := ?_)
        rintro _ -
        try dsimp only
        refine Te0 (e := e_storeS (hm := by exact Tryz.sizeOf78) (h1 := by rfl) (hne := by first | (simp; done) | (intro h; cases h)) (hl' := by exact setAts_flat amtC_len (by omega))) (h := ?_)
        rintro _ -
        try dsimp only
        refine Te (e := Yld.eff (yld_indexAddrS (by rfl) (by rfl) (by exact Tryz.runUnderlying73) (by exact Tryz.sizeOf78) (by repeat (first | exact .here | apply Sel.there)) (j - 1) (by first | rfl | omega) (by omega) (by omega) (by rfl))) (h := ?_)
        rintro _ -
        try dsimp only
        refine Te0 (e := e_storeS (hm := by exact Tryz.sizeOf78) (h1 := by rfl) (hne := by first | (simp; done) | (intro h; cases h)) (hl' := by exact setAts_flat amtC_len (by rw [List.length_set]; omega))) (h := ?_)
        rintro _ -
        try dsimp only
        refine WT.done ?_
        exact Kgoto JR6 () trivial
       exact WT.stop
      refine WT.alt ?_ ?_
      ·
       refine Te (e := Yld.eff (yld_loadSA (by rfl) (by exact Tryz.isAgg78) (by exact Tryz.sizeOf78) (by repeat (first | exact .here | apply Sel.there)) (by exact flat_cells amtC_len hx))) (h := ?_)
       rintro _ -
       try dsimp only
       refine Te (e := Yld.eff (yld_indexAddrS (by rfl) (by rfl) (by exact Tryz.runUnderlying73) (by exact Tryz.sizeOf78) (by repeat (first | exact .here | apply Sel.there)) (j - 1) (by first | rfl | omega) (by omega) (by omega) (by rfl))) (h := ?_)
       rintro _ -
       try dsimp only
       refine Te (e := Yld.eff (yld_loadSA (by rfl) (by exact Tryz.isAgg78) (by exact Tryz.sizeOf78) (by repeat (first | exact .here | apply Sel.there)) (by exact flat_cells amtC_len hy))) (h := ?_)
       rintro _ -
       try dsimp only
       refine Te (e := Yld.eff (yld_indexAddrS (by rfl) (by rfl) (by exact Tryz.runUnderlying73) (by exact Tryz.sizeOf78) (by repeat (first | exact .here | apply Sel.there)) (j) (by first | rfl | omega) (by omega) (by omega) (by rfl))) (h := ?_)
       rintro _ -
       try dsimp only
       refine Te0 (e := e_storeS (hm := by exact Tryz.sizeOf78) (h1 := by rfl) (hne := by first | (simp; done) | (intro h; cases h)) (hl' := by exact setAts_flat amtC_len (by omega))) (h := ?_)
       rintro _ -
       try dsimp only
       refine Te (e := Yld.eff (yld_indexAddrS (by rfl) (by rfl) (by exact Tryz.runUnderlying73) (by exact Tryz.sizeOf78) (by repeat (first | exact .here | apply Sel.there)) (j - 1) (by first | rfl | omega) (by omega) (by omega) (by rfl))) (h := ?_)
       rintro _ -
       try dsimp only
       refine Te0 (e := e_storeS (hm := by exact Tryz.sizeOf78) (h1 := by rfl) (hne := by first | (simp; done) | (intro h; cases h)) (hl' := by exact setAts_flat amtC_len (by rw [List.length_set]; omega))) (h := ?_)
       rintro _ -
       try dsimp only
       refine WT.done ?_
       exact Kgoto JR6 () trivial
      exact WT.stop
     exact WT.stop
   ·
    have hc34 := of_decide_eq_false hc34
    refine WK.exit ?_
    repeat (first | refine XQ.then_ ?_ | refine XQ.block (by rfl) ?_)
    refine XQ.here ?_
    refine WK.endBlock ?_
    refine WK.region ?_
    refine Ly y_move ?_
    refine Ly y_add ?_
    refine Ly y_assign ?_
    refine WL.done ?_
    refine Knext hN (i + 1, cur) ⟨by dsimp only; omega, by dsimp only; omega, hI.perm, hI.done hw (.inr ⟨x, y, hx, hy, hc34⟩)⟩ (by dsimp only; omega)
  ·
   have hc21 := of_decide_eq_false hc21
   refine Oz (h := ?_)
   refine Oz (h := ?_)
   refine Oz (h := ?_)
   refine Oz (h := ?_)
   refine Oz (h := ?_)
   refine Oz (h := ?_)
   refine Oz (h := ?_)
   refine Oz (h := ?_)
   refine Oz (h := ?_)
   refine Oz (h := ?_)
   refine OzE (h := ?_)
   refine Oz (h := ?_)
   refine Oy (y := y_pick_false) (h := ?_)
   refine WO.done ?_
   refine Kcond (ht := fun h => by cases h) (hf := fun _ => ?_)
   refine WK.exit ?_
   repeat (first | refine XQ.then_ ?_ | refine XQ.block (by rfl) ?_)
   refine XQ.here ?_
   refine WK.endBlock ?_
   refine WK.region ?_
   refine Ly y_move ?_
   refine Ly y_add ?_
   refine Ly y_assign ?_
   refine WL.done ?_
   refine Knext hN (i + 1, cur) ⟨by dsimp only; omega, by dsimp only; omega, hI.perm, hI.done hw (.inl (by omega))⟩ (by dsimp only; omega)
 ·
  have hc14 := of_decide_eq_false hc14
  refine WK.exit ?_
  repeat (first | refine XQ.then_ ?_ | refine XQ.block (by rfl) ?_)
  refine XQ.here ?_
  refine WK.fall (results0 (by rfl)) (fun w s => ?_)
  refine ⟨cur, ⟨hpm, ?_⟩, rfl, s.toCs (by repeat (first | exact SelL.nil | exact SelL.self | apply SelL.cons | exact Sel.here | apply Sel.there | apply SelL.skip))⟩
  refine SrtN.pairwise fun p q x y h1 h2 => hsr p q x y h1 (by omega)
set_option maxRecDepth 20000 in
set_option maxHeartbeats 4000000 in
theorem pdq12_amt (lim : Int) (f : FuncId) (caps : List Value) (X : HProp) (c : AmtM → AmtM → Int) (S : AmtM → Prop) (hp : CmpF Tryz.prog f caps X (fun x => Value.agg (amtC x).toArray) S c) (hw : SWOc c) (ad : Option Addr) (len cap : Nat) (l : List AmtM) (hlen : len ≤ 12) (hS : ∀ x ∈ l, S x) :
  Triple Tryz.prog 74 #[.slice ad len cap, .int .i64 0, .int .i64 (len : Int), .int .i64 lim, .func (.func f) #[] caps.toArray] [sl true 78 2 ad len cap (flat amtC l), X] (List AmtM) (fun l2 => l2.Perm l ∧ l2.Pairwise (fun x y => ¬ c y x < 0)) (fun _ => .tuple #[]) (fun l2 => [sl true 78 2 ad len cap (flat amtC l2), X]) := by
 refine Triple.of_body (args := [.slice ad len cap, .int .i64 0, .int .i64 (len : Int), .int .i64 lim, .func (.func f) #[] caps.toArray]) Tryz.func74 rfl Tryz.ntmps74 (by simp) (fun g F => ?_)
 dsimp only [numb, List.cons_append, List.nil_append]
 refine WK.seq ?_
 refine WK.region ?_
 refine Ly y_assign ?_
 refine WL.done ?_
 refine WK.seq ?_
 refine WK.region ?_
 refine Ly y_assign ?_
 refine WL.done ?_
 refine WK.block ?_
 refine Kloop (ι := Unit) (fun _ => True) (fun _ => [(0, .slice ad len cap), (1, .int .i64 0), (2, .int .i64 (len : Int)), (3, .int .i64 lim), (4, .func (.func f) #[] caps.toArray)]) (fun _ => sl true 78 2 ad len cap (flat amtC l) :: X :: F) (fun _ => 0) (()) (trivial) (round := ?_)
 rintro _ - N hN
 refine WK.block ?_
 refine WK.seq ?_
 refine WK.region ?_
 refine Ly y_move ?_
 refine Ly y_move ?_
 refine Ly y_sub ?_
 refine Ly y_assign ?_
 refine WL.done ?_
 refine WK.seq ?_
 refine WK.seq ?_
 refine WK.region ?_
 refine Ly y_move ?_
 refine Ly y_leq ?_
 refine WL.done ?_
 refine Kcond (ht := fun hc25 => ?_) (hf := fun hc25 => ?_)
 ·
  have hc25 := of_decide_eq_true hc25
  refine WK.seq ?_
  refine WK.region ?_
  refine Ly y_move ?_
  refine Ly y_move ?_
  refine Ly y_move ?_
  refine Ly y_move ?_
  refine Le (e_call (by exact Tryz.call109) (t := insort_amt f caps X c S hp hw ad len cap l (by omega) hS)) ?_
  rintro l2 hl2
  try dsimp only
  refine WL.done ?_
  refine WK.ret ?_
  repeat (first | refine RQ.block ?_ | refine RQ.then_ ?_)
  refine RQ.body (results0 (by rfl)) (fun w s => ?_)
  exact ⟨l2, hl2, rfl, s.toCs (by repeat (first | exact SelL.nil | exact SelL.self | apply SelL.cons | exact Sel.here | apply Sel.there | apply SelL.skip))⟩
 ·
  have hc25 := of_decide_eq_false hc25
  exfalso
  omega
set_option maxRecDepth 20000 in
set_option maxHeartbeats 4000000 in
theorem sort12_amt (f : FuncId) (caps : List Value) (X : HProp) (c : AmtM → AmtM → Int) (S : AmtM → Prop) (hp : CmpF Tryz.prog f caps X (fun x => Value.agg (amtC x).toArray) S c) (hw : SWOc c) (ad : Option Addr) (len cap : Nat) (l : List AmtM) (hlen : len ≤ 12) (hS : ∀ x ∈ l, S x) :
  Triple Tryz.prog 59 #[.slice ad len cap, .func (.func f) #[] caps.toArray] [sl true 78 2 ad len cap (flat amtC l), X] (List AmtM) (fun l2 => l2.Perm l ∧ l2.Pairwise (fun x y => ¬ c y x < 0)) (fun _ => .tuple #[]) (fun l2 => [sl true 78 2 ad len cap (flat amtC l2), X]) := by
 refine Triple.of_body (args := [.slice ad len cap, .func (.func f) #[] caps.toArray]) Tryz.func59 rfl Tryz.ntmps59 (by simp) (fun g F => ?_)
 dsimp only [numb, List.cons_append, List.nil_append]
 refine WK.seq ?_
 refine WK.region ?_
 refine Ly y_move ?_
 refine Ly (y_len (hu := by exact Tryz.runUnderlying73)) ?_
 refine Ly y_assign ?_
 refine WL.done ?_
 refine WK.region ?_
 refine Ly y_move ?_
 refine Ly y_move ?_
 refine Ly y_move ?_
 refine Ly (y_convInt (h1 := by exact Tryz.runUnderlying3) (h2 := by exact Tryz.runUnderlying137) (hr := show IntKind.u64.wrap (len : Int) = (len : Int) from wU64 (by omega) (by omega))) ?_
 refine Le (e_call (by exact Tryz.call67) (t := bitsLen_spec len hlen)) ?_
 rintro lim -
 try dsimp only
 refine Ly y_move ?_
 refine Le (e_call (by exact Tryz.call74) (t := pdq12_amt lim f caps X c S hp hw ad len cap l (by omega) hS)) ?_
 rintro l2 hl2
 try dsimp only
 refine WL.done ?_
 refine WK.fall (results0 (by rfl)) (fun w s => ?_)
 exact ⟨l2, hl2, rfl, s.toCs (by repeat (first | exact SelL.nil | exact SelL.self | apply SelL.cons | exact Sel.here | apply Sel.there | apply SelL.skip))⟩
set_option maxRecDepth 20000 in
set_option maxHeartbeats 1000000 in
theorem acmp_spec (x y : AmtM) (hx : smallA x) (hy : smallA y) :
  Triple Tryz.prog 60 #[.agg #[.int .i64 x.item, .int .i64 x.n], .agg #[.int .i64 y.item, .int .i64 y.n]] [] (Unit) (fun _ => True) (fun _ => .int .i64 (cmpA x y)) (fun _ => []) := by
 refine Triple.of_body (args := [.agg #[.int .i64 x.item, .int .i64 x.n], .agg #[.int .i64 y.item, .int .i64 y.n]]) Tryz.func60 rfl Tryz.ntmps60 (by simp) (fun g F => ?_)
 dsimp only [numb, List.cons_append, List.nil_append]
 obtain ⟨hx1, hx2⟩ := hx
 obtain ⟨hy1, hy2⟩ := hy
 refine WK.seq ?_
 refine WK.region ?_
 refine Le e_box ?_
 rintro b2 -
 try dsimp only
 refine Le e_box ?_
 rintro b3 -
 try dsimp only
 refine Ly y_assign ?_
 refine WL.done ?_
 refine WK.seq ?_
 refine WK.region ?_
 refine Ly (y_fieldAddr (hu := by exact Tryz.runUnderlying78) (hs := by exact Tryz.sizeOf3)) ?_
 refine Ly (y_load (ha := by exact Tryz.isAgg3)) ?_
 refine Ly (y_fieldAddr (hu := by exact Tryz.runUnderlying78) (hs := by exact Tryz.sizeOf3)) ?_
 refine Ly (y_load (ha := by exact Tryz.isAgg3)) ?_
 refine Ly y_sub ?_
 refine Ly y_assign ?_
 refine WL.done ?_
 refine WK.ret ?_
 repeat (first | refine RQ.block ?_ | refine RQ.then_ ?_)
 refine RQ.body (results1 (by rfl) (by rfl)) (fun w s => ?_)
 exact ⟨(), trivial, rfl, Sat.drop (l := [_, _]) s⟩
theorem acmp_pred : CmpF Tryz.prog 60 [] (pack []) (fun x => Value.agg (amtC x).toArray) smallA cmpA := ⟨Tryz.call60, fun x y hx hy => (acmp_spec x y hx hy).withX [pack []]⟩
def legC (s1 a to : Int) (ad : Option Addr) (n cap : Nat) : List Value := [.int .i64 s1, .int .i64 a, .int .i64 to, .int .i64 a, .slice ad n cap]
/-- What Legs returns: nothing, or one leg with the amounts x. -/
def legP (s1 a to : Int) (x : List AmtM × (Option Addr × Nat) × Nat) : HProp := match x.1 with
  | [] => emp
  | _ => pack [sl true 75 5 (some ⟨x.2.2, 0, none⟩) 1 1 (legC s1 a to x.2.1.1 x.1.length x.2.1.2), sl true 78 2 x.2.1.1 x.1.length x.2.1.2 (flat amtC x.1)]
def legV (x : List AmtM × (Option Addr × Nat) × Nat) : Value := match x.1 with
  | [] => .tuple #[.slice none 0 0, .int .i64 7]
  | _ => .tuple #[.slice (some ⟨x.2.2, 0, none⟩) 1 1, .int .i64 0]
set_option maxRecDepth 20000 in
set_option maxHeartbeats 6000000 in
theorem legs_spec (pl : Bool) (q : Nat) (sh : Int) (nf ns : Nat) (W : LedW) (ms : List (Place × Value)) (st : StkM) (hst : StkOk ms st) (h12 : st.length ≤ 12) (s1 a to : Int) (ha : 1 ≤ a ∧ a ≤ 1073741824) (hs1 : 0 ≤ s1 ∧ s1 < 12) (hto : 0 ≤ to ∧ to < 12) (hne : s1 ≠ to) :
  Triple Tryz.prog 30 #[.pointer (some ⟨q, 0, none⟩), .int .i64 s1, .int .i64 a, .int .i64 to] [row pl q 120 (ledRow sh nf ns W), mapK plE true W.sb ms, stkV ms st] (List AmtM × (Option Addr × Nat) × Nat) (fun x => x.1.Perm (amOf a (st.map holdOf)) ∧ sortedA x.1) (legV) (fun x => [row pl q 120 (ledRow sh nf ns W), mapK plE true W.sb ms, stkV ms st, legP s1 a to x]) := by
 refine Triple.of_body (args := [.pointer (some ⟨q, 0, none⟩), .int .i64 s1, .int .i64 a, .int .i64 to]) Tryz.func30 rfl Tryz.ntmps30 (by simp) (fun g F => ?_)
 dsimp only [numb, List.cons_append, List.nil_append]
 refine WK.seq ?_
 refine WK.region ?_
 refine Ly y_assign ?_
 refine Ly y_assign ?_
 refine WL.done ?_
 refine WK.seq ?_
 refine WK.seq ?_
 refine WK.region ?_
 refine Ly y_move ?_
 refine Le (e_call (by exact Tryz.call34) (t := account_spec a)) ?_
 rintro _ -
 rw [decide_eq_true ha]
 try dsimp only
 refine Ly y_not ?_
 refine Ly y_move ?_
 refine Lyg y_move ?_
 refine Lyg y_move ?_
 refine Leg (e_mkSliceN (by exact Tryz.runUnderlying22) (by exact Tryz.sizeOf3) (by exact Tryz.zeroValue3) (hb := by decide) (hk0 := by rfl) (hl0 := by rfl) (h1 := by rfl)) ?_
 rintro b19 -
 try dsimp only [List.cons_append, List.nil_append]
 try dsimp only
 refine Leg (e_call (by exact Tryz.call39) (t := (shards_spec (some ⟨b19, 0, none⟩) 2 2 [s1, to] (by decide)))) ?_
 rintro _ -
 rw [show (!([s1, to].any fun x => decide (x < 0 ∨ 12 ≤ x))) = true from by simp; omega]
 try dsimp only
 refine Lyg y_not ?_
 refine Ly y_pick_false ?_
 refine Ly y_move ?_
 refine Lyg y_move ?_
 refine Lyg y_move ?_
 refine Lyg y_eql ?_
 refine Ly y_pick_false ?_
 refine WL.done ?_
 refine Kcond (ht := fun hc27 => ?_) (hf := fun hc27 => ?_)
 ·
  have hc27 := of_decide_eq_true hc27
  exfalso
  first | omega | (simp at hc27; done) | (simp at hc27; omega) | (simp_all; done) | (simp_all; omega)
 ·
  have hc27 := of_decide_eq_false hc27
  refine WK.skip ?_
  refine WK.seq ?_
  refine WK.region ?_
  refine Ly y_move ?_
  refine Ly y_move ?_
  refine Ly y_move ?_
  refine Ly y_move ?_
  refine Ly (y_build (hz := by exact Tryz.zeroValue75) (hu := by exact Tryz.runUnderlying75) (hp := by exact fun w => places75 w Tryz.underlying75) (hne := by first | decide | simp)) ?_
  refine Le (e_alloc (by exact Tryz.zeroValue75)) ?_
  rintro b10 -
  try dsimp only
  refine Le0 (e_store (hk := by exact Tryz.sizeOf75) (h1 := by rfl)) ?_
  rintro _ -
  try dsimp only
  refine WL.done ?_
  refine WK.seq ?_
  refine WK.seq ?_
  refine WK.region ?_
  refine Ly y_move ?_
  refine Le (e_call (by exact Tryz.call29) (t := holdings_spec pl q sh nf ns W ms st hst h12)) ?_
  rintro ⟨hs, had, hcap⟩ ⟨hp, hsh⟩
  dsimp only at hp hsh ⊢
  have hhl : hs.length ≤ 12 := by have := hp.length_eq; rw [List.length_map] at this; omega
  refine WL.sat (fun w s => Sat.nilSl s true 78 2) ?_
  try dsimp only
  refine Ly (y_len (hu := by exact Tryz.runUnderlying66)) ?_
  refine Ly y_move ?_
  refine WL.done ?_
  refine WK.block ?_
  refine Kloop (ι := Nat × Option Addr × Nat) (fun x => x.1 ≤ hs.length) (fun x => [(2, .int .i64 a), (10, .pointer (some ⟨b10, 0, none⟩)), (34, .slice had hs.length hcap), (35, .int .i64 (hs.length : Int)), (36, .int .i64 (x.1 : Int))]) (fun x => row true b10 75 [.int .i64 s1, .int .i64 a, .int .i64 to, .int .i64 a, .slice x.2.1 (amOf a (hs.take x.1)).length x.2.2] :: sl true 78 2 x.2.1 (amOf a (hs.take x.1)).length x.2.2 (flat amtC (amOf a (hs.take x.1))) :: sl true 69 3 had hs.length hcap (flat holdC hs) :: row pl q 120 (ledRow sh nf ns W) :: mapK plE true W.sb ms :: stkV ms st :: F) (fun x => hs.length - x.1) ((0, none, 0)) (Nat.zero_le _) (round := ?_)
  rintro ⟨i, ad1, cap1⟩ hi N hN
  dsimp only at hi ⊢
  have hal := amOf_len a (hs.take i)
  rw [List.length_take] at hal
  refine WK.seq ?_
  refine WK.region ?_
  refine Ly y_lss ?_
  refine WL.done ?_
  refine WK.seq ?_
  refine Kcond (ht := fun hc37 => ?_) (hf := fun hc37 => ?_)
  ·
   have hc37 := of_decide_eq_true hc37
   obtain ⟨h, hx⟩ : ∃ x, hs[i]? = some x := ⟨_, List.getElem?_eq_getElem (by omega)⟩
   refine WK.skip ?_
   refine WK.seq ?_
   refine WK.block ?_
   refine WK.seq ?_
   refine WK.region ?_
   refine Ly (y_indexAddrS (hu := by exact Tryz.runUnderlying66) (hz := by exact Tryz.sizeOf69) (j := i) (hi := by first | rfl | omega) (hj' := by omega) (hj := by omega)) ?_
   refine Ly (y_loadSA (ha := by exact Tryz.isAgg69) (hm := by exact Tryz.sizeOf69) (hv := by exact flat_cells holdC_len hx)) ?_
   refine Le (e_alloc (by exact Tryz.zeroValue69)) ?_
   rintro b12 -
   try dsimp only
   refine Le0 (e_store (hk := by exact Tryz.sizeOf69) (h1 := by rfl)) ?_
   rintro _ -
   try dsimp only
   refine WL.done ?_
   refine WK.seq ?_
   refine WK.region ?_
   refine Ly (y_fieldAddr (hu := by exact Tryz.runUnderlying69) (hs := by exact Tryz.sizeOf3)) ?_
   refine Ly (y_load (ha := by exact Tryz.isAgg3)) ?_
   refine Ly y_move ?_
   refine Ly y_eql ?_
   refine WL.done ?_
   refine Kcond (ht := fun hc43 => ?_) (hf := fun hc43 => ?_)
   ·
    have hc43 := of_decide_eq_true hc43
    refine WK.region ?_
    refine Ly (y_fieldAddr (hu := by exact Tryz.runUnderlying75) (hs := by exact Tryz.sizeOf73)) ?_
    refine Ly (y_load (ha := by exact Tryz.isAgg73)) ?_
    refine Ly (y_fieldAddr (hu := by exact Tryz.runUnderlying69) (hs := by exact Tryz.sizeOf3)) ?_
    refine Ly (y_load (ha := by exact Tryz.isAgg3)) ?_
    refine Ly (y_fieldAddr (hu := by exact Tryz.runUnderlying69) (hs := by exact Tryz.sizeOf3)) ?_
    refine Ly (y_load (ha := by exact Tryz.isAgg3)) ?_
    refine Ly (y_build (hz := by exact Tryz.zeroValue78) (hu := by exact Tryz.runUnderlying78) (hp := by exact fun w => places78 w Tryz.underlying78) (hne := by first | decide | simp)) ?_
    refine Le (e_mkSlice1 (hu := by exact Tryz.runUnderlying73) (hk := by exact Tryz.sizeOf78) (hz := by exact Tryz.zeroValue78) (hk0 := by rfl) (hb := by decide) (h1 := by rfl)) ?_
    rintro b51 -
    try dsimp only
    refine Le (e_append (et := elem73) (htx := by exact Tryz.underlying73) (hb := by omega) (hm := by omega)) ?_
    rintro ⟨ad52, cap52⟩ -
    try dsimp only
    refine Ly (y_fieldAddr (hu := by exact Tryz.runUnderlying75) (hs := by exact Tryz.sizeOf73)) ?_
    refine Le0 (e_store (hk := by exact Tryz.sizeOf73) (h1 := by rfl)) ?_
    rintro _ -
    try dsimp only
    refine WL.done ?_
    refine WK.endBlock ?_
    refine WK.region ?_
    refine Ly y_add ?_
    refine Ly y_move ?_
    refine WL.done ?_
    apply WK.next hN (i + 1, ad52, cap52) (by dsimp only; omega) (by dsimp only; omega) (by repeat (first | exact KK.nil | refine KK.cons (by first | rfl | (simp; done)) ?_))
    dsimp only
    rw [amOf_more hx, if_pos hc43, List.length_append, flat_app, flat_one]
    exact (by repeat (first | exact SelL.nil | exact SelL.self | apply SelL.cons | exact Sel.here | apply Sel.there | apply SelL.skip))
   ·
    have hc43 := of_decide_eq_false hc43
    refine WK.skip ?_
    refine WK.endBlock ?_
    refine WK.region ?_
    refine Ly y_add ?_
    refine Ly y_move ?_
    refine WL.done ?_
    apply WK.next hN (i + 1, ad1, cap1) (by dsimp only; omega) (by dsimp only; omega) (by repeat (first | exact KK.nil | refine KK.cons (by first | rfl | (simp; done)) ?_))
    dsimp only
    rw [amOf_more hx, if_neg hc43]
    exact (by repeat (first | exact SelL.nil | exact SelL.self | apply SelL.cons | exact Sel.here | apply Sel.there | apply SelL.skip))
  ·
   have hc37 := of_decide_eq_false hc37
   obtain rfl : i = hs.length := by omega
   rw [List.take_length] at *
   refine WK.exit ?_
   repeat (first | refine XQ.then_ ?_ | refine XQ.block (by rfl) ?_)
   refine XQ.here ?_
   refine WK.seq ?_
   refine WK.seq ?_
   refine WK.region ?_
   refine Ly (y_fieldAddr (hu := by exact Tryz.runUnderlying75) (hs := by exact Tryz.sizeOf73)) ?_
   refine Ly (y_load (ha := by exact Tryz.isAgg73)) ?_
   refine Ly (y_len (hu := by exact Tryz.runUnderlying73)) ?_
   refine Ly y_eql ?_
   refine WL.done ?_
   refine Kcond (ht := fun hc58 => ?_) (hf := fun hc58 => ?_)
   ·
    have hc58 := of_decide_eq_true hc58
    refine WK.seq ?_
    refine WK.region ?_
    refine Ly y_assign ?_
    refine Ly y_assign ?_
    refine WL.done ?_
    refine WK.ret ?_
    repeat (first | refine RQ.block ?_ | refine RQ.then_ ?_)
    refine RQ.body (results2 (by rfl) (by rfl) (by rfl)) (fun w s => ?_)
    have hnil : amOf a hs = [] := List.eq_nil_of_length_eq_zero (by omega)
    refine ⟨([], (none, 0), 0), ⟨?_, List.Pairwise.nil⟩, rfl, ?_⟩
    · have := amOf_perm (a := a) hp
      rw [hnil] at this
      exact this
    · have s2 := s.addEmp
      exact s2.toCs (by repeat (first | exact SelL.nil | exact SelL.self | apply SelL.cons | exact Sel.here | apply Sel.there | apply SelL.skip))
   ·
    have hc58 := of_decide_eq_false hc58
    refine WK.skip ?_
    refine WK.seq ?_
    refine WK.sat (fun w s => Sat.pack (l := []) s) ?_
    refine WK.region ?_
    refine Ly (y_fieldAddr (hu := by exact Tryz.runUnderlying75) (hs := by exact Tryz.sizeOf73)) ?_
    refine Ly (y_load (ha := by exact Tryz.isAgg73)) ?_
    refine Le (e_call (by exact Tryz.call59) (t := sort12_amt _ [] (pack []) cmpA smallA acmp_pred cmpA_swo ad1 (amOf a hs).length cap1 (amOf a hs) (by have := amOf_len a hs; omega) (amOf_small (holdOf_small hst hp)))) ?_
    rintro am ⟨hpa, hsa⟩
    try dsimp only
    refine WL.done ?_
    refine WK.seq ?_
    refine WK.region ?_
    refine Ly (y_loadA (ha := by exact Tryz.isAgg75) (hk := by exact Tryz.sizeOf75)) ?_
    refine Le (e_mkSlice1 (hu := by exact Tryz.runUnderlying70) (hk := by exact Tryz.sizeOf75) (hz := by exact Tryz.zeroValue75) (hk0 := by rfl) (hb := by decide) (h1 := by rfl)) ?_
    rintro b63 -
    try dsimp only
    refine Ly y_assign ?_
    refine Ly y_assign ?_
    refine WL.done ?_
    refine WK.ret ?_
    repeat (first | refine RQ.block ?_ | refine RQ.then_ ?_)
    refine RQ.body (results2 (by rfl) (by rfl) (by rfl)) (fun w s => ?_)
    have hll : am.length = (amOf a hs).length := hpa.length_eq
    obtain ⟨y, r, hyr⟩ : ∃ y r, am = y :: r := by
      cases am with
      | nil => simp at hll; omega
      | cons y r => exact ⟨y, r, rfl⟩
    refine ⟨(am, (ad1, cap1), b63), ⟨hpa.trans (amOf_perm hp), hsa⟩, by rw [hyr]; rfl, ?_⟩
    have s2 := Sat.pack (s.sel (As := [sl true 75 5 (some ⟨b63, 0, none⟩) 1 1 (legC s1 a to ad1 am.length cap1), sl true 78 2 ad1 am.length cap1 (flat amtC am)]) (by rw [hll]; exact (by repeat (first | exact SelL.nil | exact SelL.self | apply SelL.cons | exact Sel.here | apply Sel.there | apply SelL.skip))))
    have s3 := s2.toCs (Cs := legP s1 a to (am, (ad1, cap1), b63) :: row pl q 120 (ledRow sh nf ns W) :: mapK plE true W.sb ms :: stkV ms st :: F) (by rw [legP, hyr]; exact (by repeat (first | exact SelL.nil | exact SelL.self | apply SelL.cons | exact Sel.here | apply Sel.there | apply SelL.skip)))
    exact s3.toCs (by repeat (first | exact SelL.nil | exact SelL.self | apply SelL.cons | exact Sel.here | apply Sel.there | apply SelL.skip))
end Go.Proofs.YtkakfmcjiabjjaaGreatDoor
