import Derived.Test.YtkakfmcjiabjjaaGreatDoorLedD
import Derived.Test.YtkakfmcjiabjjaaGreatDoorSrtL
namespace Go.Proofs.YtkakfmcjiabjjaaGreatDoor
set_option linter.unusedVariables false
set_option linter.unusedSimpArgs false
set_option linter.unusedSectionVars false
set_option linter.unnecessarySimpa false
open Go Go.Sep
attribute [local irreducible] row sl mapO held exL allR byt mapI slr mapK rangeK vec pack
def LEN8 : List UInt8 := (([0, 1, 2, 2, 3, 3, 3, 3, 4, 4, 4, 4, 4, 4, 4, 4, 5, 5, 5, 5, 5, 5, 5, 5, 5, 5, 5, 5, 5, 5, 5, 5, 6, 6, 6, 6, 6, 6, 6, 6, 6, 6, 6, 6, 6, 6, 6, 6, 6, 6, 6, 6, 6, 6, 6, 6, 6, 6, 6, 6, 6, 6, 6, 6].append [7, 7, 7, 7, 7, 7, 7, 7, 7, 7, 7, 7, 7, 7, 7, 7, 7, 7, 7, 7, 7, 7, 7, 7, 7, 7, 7, 7, 7, 7, 7, 7, 7, 7, 7, 7, 7, 7, 7, 7, 7, 7, 7, 7, 7, 7, 7, 7, 7, 7, 7, 7, 7, 7, 7, 7, 7, 7, 7, 7, 7, 7, 7, 7]).append ([8, 8, 8, 8, 8, 8, 8, 8, 8, 8, 8, 8, 8, 8, 8, 8, 8, 8, 8, 8, 8, 8, 8, 8, 8, 8, 8, 8, 8, 8, 8, 8, 8, 8, 8, 8, 8, 8, 8, 8, 8, 8, 8, 8, 8, 8, 8, 8, 8, 8, 8, 8, 8, 8, 8, 8, 8, 8, 8, 8, 8, 8, 8, 8].append [8, 8, 8, 8, 8, 8, 8, 8, 8, 8, 8, 8, 8, 8, 8, 8, 8, 8, 8, 8, 8, 8, 8, 8, 8, 8, 8, 8, 8, 8, 8, 8, 8, 8, 8, 8, 8, 8, 8, 8, 8, 8, 8, 8, 8, 8, 8, 8, 8, 8, 8, 8, 8, 8, 8, 8, 8, 8, 8, 8, 8, 8, 8, 8]))
structure HoldM where
  account : Int
  item : Int
  n : Int
def holdC (x : HoldM) : List Value := [.int .i64 x.account, .int .i64 x.item, .int .i64 x.n]
theorem holdC_len : ∀ x, (holdC x).length = 3 := fun _ => rfl
def cmpH (x y : HoldM) : Int := if x.account ≠ y.account then x.account - y.account else x.item - y.item
theorem cmpH_swo : SWOc cmpH := ⟨fun x y => by unfold cmpH; split <;> split <;> omega, fun x y z => by unfold cmpH; split <;> split <;> split <;> omega⟩
def smallH (x : HoldM) : Prop := (0 ≤ x.account ∧ x.account ≤ 4294967296) ∧ (0 ≤ x.item ∧ x.item ≤ 4294967296)
theorem elem66 : ElemT Tryz.prog 66 69 3 24 := ⟨Tryz.underlying66, ⟨Tryz.t69, _, by kernel_rfl, rfl, rfl, rfl, rfl⟩⟩
theorem places69 (w : World) : ∀ {fs : Array Field}, Tryz.prog.underlying 69 = some (.struct fs) → Sem.run Tryz.prog (fs.mapM fun f => Prod.mk f.offset <$> sizeOf f.type) w = .ok #[(0, 1), (1, 1), (2, 1)] w := by
  intro fs h
  rw [Tryz.underlying69] at h
  cases h
  simp
set_option maxRecDepth 20000 in
set_option maxHeartbeats 1000000 in
theorem len64_spec (n : Nat) (hn : n ≤ 12) :
  Triple Tryz.prog 93 #[.int .u64 (n : Int)] [] (Int) (fun _ => True) (fun v => .int .i64 v) (fun _ => []) := by
 refine Triple.of_body (args := [.int .u64 (n : Int)]) Tryz.func93 rfl Tryz.ntmps93 (by simp) (fun g F => ?_)
 dsimp only [numb, List.cons_append, List.nil_append]
 refine WK.seq ?_
 refine WK.region ?_
 refine Ly y_assign ?_
 refine WL.done ?_
 refine WK.seq ?_
 refine WK.seq ?_
 refine WK.region ?_
 refine Ly y_move ?_
 refine Ly y_geq ?_
 refine WL.done ?_
 refine Kcond (ht := fun hc4 => ?_) (hf := fun hc4 => ?_)
 ·
  have hc4 := of_decide_eq_true hc4
  exfalso
  first | omega | (simp at hc4; done) | (simp at hc4; omega) | (simp_all; done) | (simp_all; omega)
 ·
  have hc4 := of_decide_eq_false hc4
  refine WK.skip ?_
  refine WK.seq ?_
  refine WK.seq ?_
  refine WK.region ?_
  refine Ly y_move ?_
  refine Ly y_geq ?_
  refine WL.done ?_
  refine Kcond (ht := fun hc8 => ?_) (hf := fun hc8 => ?_)
  ·
   have hc8 := of_decide_eq_true hc8
   exfalso
   first | omega | (simp at hc8; done) | (simp at hc8; omega) | (simp_all; done) | (simp_all; omega)
  ·
   have hc8 := of_decide_eq_false hc8
   refine WK.skip ?_
   refine WK.seq ?_
   refine WK.seq ?_
   refine WK.region ?_
   refine Ly y_move ?_
   refine Ly y_geq ?_
   refine WL.done ?_
   refine Kcond (ht := fun hc14 => ?_) (hf := fun hc14 => ?_)
   ·
    have hc14 := of_decide_eq_true hc14
    exfalso
    first | omega | (simp at hc14; done) | (simp at hc14; omega) | (simp_all; done) | (simp_all; omega)
   ·
    have hc14 := of_decide_eq_false hc14
    refine WK.skip ?_
    refine WK.seq ?_
    refine WK.region ?_
    refine Ly y_move ?_
    refine Ly y_move ?_
    refine Ly (y_convInt (h1 := by exact Tryz.runUnderlying182) (h2 := by exact Tryz.runUnderlying5) (hr := by exact wU8 (by omega) (by omega))) ?_
    obtain ⟨c22, hc22⟩ : ∃ c : UInt8, LEN8[n]? = some c := ⟨_, List.getElem?_eq_getElem (Nat.lt_of_lt_of_le (Nat.lt_of_le_of_lt hn (by decide : 12 < 13)) (by decide : 13 ≤ LEN8.length))⟩
    have hc22b := c22.toNat_lt
    refine Ly (y_indexStr (hu := by exact Tryz.runUnderlying9) (k := n) (hc := by exact hc22)) ?_
    refine Ly (y_convInt (h1 := by exact Tryz.runUnderlying5) (h2 := by exact Tryz.runUnderlying3) (hr := by exact w64 (by omega) (by omega))) ?_
    refine Ly (y_add (hr := by exact w64 (by omega) (by omega))) ?_
    refine Ly y_assign ?_
    refine WL.done ?_
    refine WK.ret ?_
    repeat (first | refine RQ.block ?_ | refine RQ.then_ ?_)
    refine RQ.body (results1 (by rfl) (by rfl)) (fun w s => ?_)
    exact ⟨_, trivial, rfl, s⟩
set_option maxRecDepth 20000 in
set_option maxHeartbeats 1000000 in
theorem bitsLen_spec (n : Nat) (hn : n ≤ 12) :
  Triple Tryz.prog 67 #[.int .u64 (n : Int)] [] (Int) (fun _ => True) (fun v => .int .i64 v) (fun _ => []) := by
 refine Triple.of_body (args := [.int .u64 (n : Int)]) Tryz.func67 rfl Tryz.ntmps67 (by simp) (fun g F => ?_)
 dsimp only [numb, List.cons_append, List.nil_append]
 refine WK.seq ?_
 refine WK.region ?_
 refine Ly y_assign ?_
 refine WL.done ?_
 refine WK.seq ?_
 refine Kcond (ht := fun h => by cases h) (hf := fun _ => ?_)
 refine WK.skip ?_
 refine WK.seq ?_
 refine WK.region ?_
 refine Ly y_move ?_
 refine Le (e_call (by exact Tryz.call93) (t := len64_spec n hn)) ?_
 rintro v5 -
 try dsimp only
 refine Ly y_assign ?_
 refine WL.done ?_
 refine WK.ret ?_
 repeat (first | refine RQ.block ?_ | refine RQ.then_ ?_)
 refine RQ.body (results1 (by rfl) (by rfl)) (fun w s => ?_)
 exact ⟨v5, trivial, rfl, s⟩
set_option maxRecDepth 20000 in
set_option maxHeartbeats 4000000 in
theorem insort_hold (f : FuncId) (caps : List Value) (X : HProp) (c : HoldM → HoldM → Int) (S : HoldM → Prop) (hp : CmpF Tryz.prog f caps X (fun x => Value.agg (holdC x).toArray) S c) (hw : SWOc c) (ad : Option Addr) (len cap : Nat) (l : List HoldM) (hlen : len ≤ 1000000) (hS : ∀ x ∈ l, S x) :
  Triple Tryz.prog 101 #[.slice ad len cap, .int .i64 0, .int .i64 (len : Int), .func (.func f) #[] caps.toArray] [sl true 69 3 ad len cap (flat holdC l), X] (List HoldM) (fun l2 => l2.Perm l ∧ l2.Pairwise (fun x y => ¬ c y x < 0)) (fun _ => .tuple #[]) (fun l2 => [sl true 69 3 ad len cap (flat holdC l2), X]) := by
 refine Triple.of_body (args := [.slice ad len cap, .int .i64 0, .int .i64 (len : Int), .func (.func f) #[] caps.toArray]) Tryz.func101 rfl Tryz.ntmps101 (by simp) (fun g F => ?_)
 dsimp only [numb, List.cons_append, List.nil_append]
 refine WK.know (fun w s => Sat.slLen (s.sel1 (A := sl true 69 3 ad len cap (flat holdC l)) (by repeat (first | exact .here | apply Sel.there)))) (fun hkn => ?_)
 obtain ⟨n1, -⟩ := hkn
 rw [flat_len holdC_len] at n1
 replace n1 : l.length = _ := Nat.eq_of_mul_eq_mul_right (by omega) n1
 refine WK.seq ?_
 refine WK.region ?_
 refine Ly y_move ?_
 refine Ly y_add ?_
 refine Ly y_assign ?_
 refine WL.done ?_
 refine WK.block ?_
 refine Kloop (ι := Nat × List HoldM) (fun x => 1 ≤ x.1 ∧ x.1 ≤ max 1 len ∧ x.2.Perm l ∧ SrtN c x.2 x.1) (fun x => [(0, .slice ad len cap), (1, .int .i64 0), (2, .int .i64 (len : Int)), (3, .func (.func f) #[] caps.toArray), (8, .int .i64 (x.1 : Int))]) (fun x => sl true 69 3 ad len cap (flat holdC x.2) :: X :: F) (fun x => len + 1 - x.1) ((1, l)) (⟨Nat.le_refl _, by omega, .refl _, fun p q x y h1 h2 => by omega⟩) (round := ?_)
 rintro ⟨i, cur⟩ ⟨hi1, hi2, hpm, hsr⟩ N hN
 dsimp only at hi1 hi2 hpm hsr ⊢
 have hcl := hpm.length_eq
 refine WK.seq ?_
 refine WK.seq ?_
 refine WK.region ?_
 refine Ly y_move ?_
 refine Ly y_move ?_
 refine Ly y_lss ?_
 refine WL.done ?_
 refine Kcond (ht := fun hc14 => ?_) (hf := fun hc14 => ?_)
 ·
  have hc14 := of_decide_eq_true hc14
  refine WK.skip ?_
  refine WK.seq ?_
  refine WK.block ?_
  refine WK.seq ?_
  refine WK.region ?_
  refine Ly y_move ?_
  refine Ly y_assign ?_
  refine WL.done ?_
  refine WK.block ?_
  refine Kloop (ι := Nat × List HoldM) (fun x => Ins c l x.2 i x.1) (fun x => [(0, .slice ad len cap), (1, .int .i64 0), (2, .int .i64 (len : Int)), (3, .func (.func f) #[] caps.toArray), (8, .int .i64 (i : Int)), (9, .int .i64 (x.1 : Int))]) (fun x => sl true 69 3 ad len cap (flat holdC x.2) :: X :: F) (fun x => x.1) ((i, cur)) (Ins.start hpm hsr) (round := ?_)
  rintro ⟨j, cur⟩ hI N2 hN2
  dsimp only at hI ⊢
  have hcl := hI.perm.length_eq
  have hji := hI.le
  refine WK.seq ?_
  refine WK.seq ?_
  refine Kdr (l := [(0, 0), (1, 0), (2, 0), (3, 0), (4, 0), (5, 0), (6, 0), (7, 0), (8, 0), (9, 0), (10, 0), (11, 0), (12, 0), (13, 0), (14, 1), (15, 0), (16, 0)]) (Cs := [sl true 69 3 ad len cap (flat holdC cur)]) (h := ?_)
  refine Oy (y := y_move) (h := ?_)
  refine Oy (y := y_move) (h := ?_)
  refine Oy (y := y_gtr) (h := ?_)
  refine Oy (y := y_move) (h := ?_)
  refine WO.split (d := 21) (by rfl) (fun hc21 => ?_) (fun hc21 => ?_)
  ·
   have hc21 := of_decide_eq_true hc21
   obtain ⟨x, hx⟩ : ∃ x, cur[j]? = some x := ⟨_, List.getElem?_eq_getElem (by omega)⟩
   obtain ⟨y, hy⟩ : ∃ x, cur[j - 1]? = some x := ⟨_, List.getElem?_eq_getElem (by omega)⟩
   have hSx := hS x (hI.perm.mem_iff.1 (List.mem_of_getElem? hx))
   have hSy := hS y (hI.perm.mem_iff.1 (List.mem_of_getElem? hy))
   refine Oyg (y := y_move) (h := ?_)
   refine Oyg (y := y_move) (h := ?_)
   refine Oyg (y := y_move) (h := ?_)
   refine Oyg (y := y_indexAddrS (hu := by exact Tryz.runUnderlying66) (hz := by exact Tryz.sizeOf69) (j := j) (hi := by first | rfl | omega) (hj' := by omega) (hj := by omega)) (h := ?_)
   refine Oyg (y := y_loadSA (ha := by exact Tryz.isAgg69) (hm := by exact Tryz.sizeOf69) (hv := by exact flat_cells holdC_len hx)) (h := ?_)
   refine Oyg (y := y_move) (h := ?_)
   refine Oyg (y := y_move) (h := ?_)
   refine Oyg (y := y_sub) (h := ?_)
   refine Oyg (y := y_indexAddrS (hu := by exact Tryz.runUnderlying66) (hz := by exact Tryz.sizeOf69) (j := j - 1) (hi := by first | rfl | omega) (hj' := by omega) (hj := by omega)) (h := ?_)
   refine Oyg (y := y_loadSA (ha := by exact Tryz.isAgg69) (hm := by exact Tryz.sizeOf69) (hv := by exact flat_cells holdC_len hy)) (h := ?_)
   refine Oeg (e := e_callV (f := f) (hc := hp.call) (he := by rfl) (t := hp.spec x y hSx hSy)) (h := ?_)
   rintro _ -
   try dsimp only
   refine Oyg (y := y_lss) (h := ?_)
   refine Oy (y := y_pick_true) (h := ?_)
   refine WO.done ?_
   refine Kcond (ht := fun hc34 => ?_) (hf := fun hc34 => ?_)
   ·
    have hc34 := of_decide_eq_true hc34
    refine WK.skip ?_
    refine WK.seq ?_
    refine WK.block ?_
    refine WK.cut (ι := Unit) (fun _ => True) (fun _ => [(0, .slice ad len cap), (1, .int .i64 0), (2, .int .i64 (len : Int)), (3, .func (.func f) #[] caps.toArray), (8, .int .i64 (i : Int)), (9, .int .i64 (j : Int))]) (fun _ => sl true 69 3 ad len cap (flat holdC ((cur.set j y).set (j - 1) x)) :: X :: F) ?_ ?_
    ·
     rintro _ -
     refine WK.endBlock ?_
     refine WK.region ?_
     refine Ly y_move ?_
     refine Ly y_sub ?_
     refine Ly y_assign ?_
     refine WL.done ?_
     exact Knext hN2 (j - 1, (cur.set j y).set (j - 1) x) (hI.step hw (by omega) hx hy hc34) (by dsimp only; omega) (hK := by refine KK.cons rfl (KK.cons rfl (KK.cons rfl (KK.cons rfl (KK.cons rfl (KK.cons ?_ KK.nil))))); show some (Value.int .i64 ((j : Int) - 1)) = some (Value.int .i64 ((j - 1 : Nat) : Int)); rw [show ((j - 1 : Nat) : Int) = (j : Int) - 1 from by omega])
    ·
     intro JR6
     refine KdrT (t := OT.q 0 (OT.q 1 (OT.q 2 (OT.q 3 (OT.q 4 (OT.q 5 (OT.q 6 (OT.q 7 (OT.q 10 (OT.q 11 (OT.alt 8 (OT.alt 9 (OT.e 12 (OT.e 13 (OT.e 14 (OT.e 15 (OT.e 16 (OT.e 17 OT.done)))))) (OT.alt 12 (OT.alt 9 (OT.e 13 (OT.e 14 (OT.e 15 (OT.e 16 (OT.e 17 OT.done))))) (OT.alt 13 (OT.e 9 (OT.e 14 (OT.e 15 (OT.e 16 (OT.e 17 OT.done))))) OT.stop)) OT.stop)) (OT.alt 12 (OT.alt 8 (OT.alt 9 (OT.e 13 (OT.e 14 (OT.e 15 (OT.e 16 (OT.e 17 OT.done))))) (OT.alt 13 (OT.e 9 (OT.e 14 (OT.e 15 (OT.e 16 (OT.e 17 OT.done))))) OT.stop)) (OT.alt 13 (OT.e 8 (OT.e 9 (OT.e 14 (OT.e 15 (OT.e 16 (OT.e 17 OT.done)))))) OT.stop)) OT.stop)))))))))))) (Cs := []) (h := ?_)
     refine Ty (y := y_move) (h := ?_)
     refine Ty (y := y_move) (h := ?_)
     refine Ty (y := y_move) (h := ?_)
     refine Ty (y := y_move) (h := ?_)
     refine Ty (y := y_sub) (h := ?_)
     refine Ty (y := y_move) (h := ?_)
     refine Ty (y := y_move) (h := ?_)
     refine Ty (y := y_sub) (h := ?_)
     refine Ty (y := y_move) (h := ?_)
     refine Ty (y := y_move) (h := ?_)
     refine WT.alt ?_ ?_
     ·
      refine Te (e := Yld.eff (yld_indexAddrS (by rfl) (by rfl) (by exact Tryz.runUnderlying66) (by exact Tryz.sizeOf69) (by repeat (first | exact .here | apply Sel.there)) (j - 1) (by first | rfl | omega) (by omega) (by omega) (by rfl))) (h := ?_)
      rintro _ -
      try dsimp only
      refine WT.alt ?_ ?_
      ·
       refine Te (e := Yld.eff (yld_loadSA (by rfl) (by exact Tryz.isAgg69) (by exact Tryz.sizeOf69) (by repeat (first | exact .here | apply Sel.there)) (by exact flat_cells holdC_len hy))) (h := ?_)
       rintro _ -
       try dsimp only
       refine Te (e := Yld.eff (yld_indexAddrS (by rfl) (by rfl) (by exact Tryz.runUnderlying66) (by exact Tryz.sizeOf69) (by repeat (first | exact .here | apply Sel.there)) (j) (by first | rfl | omega) (by omega) (by omega) (by rfl))) (h := ?_)
       rintro _ -
       try dsimp only
       refine Te (e := Yld.eff (yld_loadSA (by rfl) (by exact Tryz.isAgg69) (by exact Tryz.sizeOf69) (by repeat (first | exact .here | apply Sel.there)) (by exact flat_cells holdC_len hx))) (h := ?_)
       rintro _ -
       try dsimp only
       refine Te (e := Yld.eff (yld_indexAddrS (by rfl) (by rfl) (by exact Tryz.runUnderlying66) (by exact Tryz.sizeOf69) (by repeat (first | exact .here | apply Sel.there)) (j) (by first | rfl | omega) (by omega) (by omega) (by rfl))) (h := ?_)
       rintro _ -
       try dsimp only
       refine Te0 (e := e_storeS (hm := by exact Tryz.sizeOf69) (h1 := by rfl) (hne := by first | (simp; done) | (intro h; cases h)) (hl' := by exact setAts_flat holdC_len (by omega))) (h := ?_)
       rintro _ -
       try dsimp only
       refine Te (e := Yld.eff (yld_indexAddrS (by rfl) (by rfl) (by exact Tryz.runUnderlying66) (by exact Tryz.sizeOf69) (by repeat (first | exact .here | apply Sel.there)) (j - 1) (by first | rfl | omega) (by omega) (by omega) (by rfl))) (h := ?_)
       rintro _ -
       try dsimp only
       refine Te0 (e := e_storeS (hm := by exact Tryz.sizeOf69) (h1 := by rfl) (hne := by first | (simp; done) | (intro h; cases h)) (hl' := by exact setAts_flat holdC_len (by rw [List.length_set]; omega))) (h := ?_)
       rintro _ -
       try dsimp only
       refine WT.done ?_
       exact Kgoto JR6 () trivial
      refine WT.alt ?_ ?_
      ·
       refine Te (e := Yld.eff (yld_indexAddrS (by rfl) (by rfl) (by exact Tryz.runUnderlying66) (by exact Tryz.sizeOf69) (by repeat (first | exact .here | apply Sel.there)) (j) (by first | rfl | omega) (by omega) (by omega) (by rfl))) (h := ?_)
       rintro _ -
       try dsimp only
       refine WT.alt ?_ ?_
       ·
        refine Te (e := Yld.eff (yld_loadSA (by rfl) (by exact Tryz.isAgg69) (by exact Tryz.sizeOf69) (by repeat (first | exact .here | apply Sel.there)) (by exact flat_cells holdC_len hy))) (h := ?_)
        rintro _ -
        try dsimp only
        refine Te (e := Yld.eff (yld_loadSA (by rfl) (by exact Tryz.isAgg69) (by exact Tryz.sizeOf69) (by repeat (first | exact .here | apply Sel.there)) (by exact flat_cells holdC_len hx))) (h := ?_)
        rintro _ -
        try dsimp only
        refine Te (e := Yld.eff (yld_indexAddrS (by rfl) (by rfl) (by exact Tryz.runUnderlying66) (by exact Tryz.sizeOf69) (by repeat (first | exact .here | apply Sel.there)) (j) (by first | rfl | omega) (by omega) (by omega) (by rfl))) (h := ?_)
        rintro _ -
        try dsimp only
        refine Te0 (e := e_storeS (hm := by exact Tryz.sizeOf69) (h1 := by rfl) (hne := by first | (simp; done) | (intro h; cases h)) (hl' := by exact setAts_flat holdC_len (by omega))) (h := ?_)
        rintro _ -
        try dsimp only
        refine Te (e := Yld.eff (yld_indexAddrS (by rfl) (by rfl) (by exact Tryz.runUnderlying66) (by exact Tryz.sizeOf69) (by repeat (first | exact .here | apply Sel.there)) (j - 1) (by first | rfl | omega) (by omega) (by omega) (by rfl))) (h := ?_)
        rintro _ -
        try dsimp only
        refine Te0 (e := e_storeS (hm := by exact Tryz.sizeOf69) (h1 := by rfl) (hne := by first | (simp; done) | (intro h; cases h)) (hl' := by exact setAts_flat holdC_len (by rw [List.length_set]; omega))) (h := ?_)
        rintro _ -
        try dsimp only
        refine WT.done ?_
        exact Kgoto JR6 () trivial
       refine WT.alt ?_ ?_
       ·
        refine Te (e := Yld.eff (yld_loadSA (by rfl) (by exact Tryz.isAgg69) (by exact Tryz.sizeOf69) (by repeat (first | exact .here | apply Sel.there)) (by exact flat_cells holdC_len hx))) (h := ?_)
        rintro _ -
        try dsimp only
        refine Te (e := Yld.eff (yld_loadSA (by rfl) (by exact Tryz.isAgg69) (by exact Tryz.sizeOf69) (by repeat (first | exact .here | apply Sel.there)) (by exact flat_cells holdC_len hy))) (h := ?_)
        rintro _ -
        try dsimp only
        refine Te (e := Yld.eff (yld_indexAddrS (by rfl) (by rfl) (by exact Tryz.runUnderlying66) (by exact Tryz.sizeOf69) (by repeat (first | exact .here | apply Sel.there)) (j) (by first | rfl | omega) (by omega) (by omega) (by rfl))) (h := ?_)
        rintro _ -
        try dsimp only
        refine Te0 (e := e_storeS (hm := by exact Tryz.sizeOf69) (h1 := by rfl) (hne := by first | (simp; done) | (intro h; cases h)) (hl' := by exact setAts_flat holdC_len (by omega))) (h := ?_)
        rintro _ -
        try dsimp only
        refine Te (e := Yld.eff (yld_indexAddrS (by rfl) (by rfl) (by exact Tryz.runUnderlying66) (by exact Tryz.sizeOf69) (by repeat (first | exact .here | apply Sel.there)) (j - 1) (by first | rfl | omega) (by omega) (by omega) (by rfl))) (h := ?_)
        rintro _ -
        try dsimp only
        refine Te0 (e := e_storeS (hm := by exact Tryz.sizeOf69) (h1 := by rfl) (hne := by first | (simp; done) | (intro h; cases h)) (hl' := by exact setAts_flat holdC_len (by rw [List.length_set]; omega))) (h := ?_)
        rintro _ -
        try dsimp only
        refine WT.done ?_
        exact Kgoto JR6 () trivial
       exact WT.stop
      exact WT.stop
     refine WT.alt ?_ ?_
     ·
      refine Te (e := Yld.eff (yld_indexAddrS (by rfl) (by rfl) (by exact Tryz.runUnderlying66) (by exact Tryz.sizeOf69) (by repeat (first | exact .here | apply Sel.there)) (j) (by first | rfl | omega) (by omega) (by omega) (by rfl))) (h := ?_)
      rintro _ -
      try dsimp only
      refine WT.alt ?_ ?_
      ·
       refine Te (e := Yld.eff (yld_indexAddrS (by rfl) (by rfl) (by exact Tryz.runUnderlying66) (by exact Tryz.sizeOf69) (by repeat (first | exact .here | apply Sel.there)) (j - 1) (by first | rfl | omega) (by omega) (by omega) (by rfl))) (h := ?_)
       rintro _ -
       try dsimp only
       refine WT.alt ?_ ?_
       ·
        refine Te (e := Yld.eff (yld_loadSA (by rfl) (by exact Tryz.isAgg69) (by exact Tryz.sizeOf69) (by repeat (first | exact .here | apply Sel.there)) (by exact flat_cells holdC_len hy))) (h := ?_)
        rintro _ -
        try dsimp only
        refine Te (e := Yld.eff (yld_loadSA (by rfl) (by exact Tryz.isAgg69) (by exact Tryz.sizeOf69) (by repeat (first | exact .here | apply Sel.there)) (by exact flat_cells holdC_len hx))) (h := ?_)
        rintro _ -
        try dsimp only
        refine Te (e := Yld.eff (yld_indexAddrS (by rfl) (by rfl) (by exact Tryz.runUnderlying66) (by exact Tryz.sizeOf69) (by repeat (first | exact .here | apply Sel.there)) (j) (by first | rfl | omega) (by omega) (by omega) (by rfl))) (h := ?_)
        rintro _ -
        try dsimp only
        refine Te0 (e := e_storeS (hm := by exact Tryz.sizeOf69) (h1 := by rfl) (hne := by first | (simp; done) | (intro h; cases h)) (hl' := by exact setAts_flat holdC_len (by omega))) (h := ?_)
        rintro _ -
        try dsimp only
        refine Te (e := Yld.eff (yld_indexAddrS (by rfl) (by rfl) (by exact Tryz.runUnderlying66) (by exact Tryz.sizeOf69) (by repeat (first | exact .here | apply Sel.there)) (j - 1) (by first | rfl | omega) (by omega) (by omega) (by rfl))) (h := ?_)
        rintro _ -
        try dsimp only
        refine Te0 (e := e_storeS (hm := by exact Tryz.sizeOf69) (h1 := by rfl) (hne := by first | (simp; done) | (intro h; cases h)) (hl' := by exact setAts_flat holdC_len (by rw [List.length_set]; omega))) (h := ?_)
        rintro _ -
        try dsimp only
        refine WT.done ?_
        exact Kgoto JR6 () trivial
       refine WT.alt ?_ ?_
       ·
        refine Te (e := Yld.eff (yld_loadSA (by rfl) (by exact Tryz.isAgg69) (by exact Tryz.sizeOf69) (by repeat (first | exact .here | apply Sel.there)) (by exact flat_cells holdC_len hx))) (h := ?_)
        rintro _ -
        try dsimp only
        refine Te (e := Yld.eff (yld_loadSA (by rfl) (by exact Tryz.isAgg69) (by exact Tryz.sizeOf69) (by repeat (first | exact .here | apply Sel.there)) (by exact flat_cells holdC_len hy))) (h := ?_)
        rintro _ -
        try dsimp only
        refine Te (e := Yld.eff (yld_indexAddrS (by rfl) (by rfl) (by exact Tryz.runUnderlying66) (by exact Tryz.sizeOf69) (by repeat (first | exact .here | apply Sel.there)) (j) (by first | rfl | omega) (by omega) (by omega) (by rfl))) (h := ?_)
        rintro _ -
        try dsimp only
        refine Te0 (e := e_storeS (hm := by exact Tryz.sizeOf69) (h1 := by rfl) (hne := by first | (simp; done) | (intro h; cases h)) (hl' := by exact setAts_flat holdC_len (by omega))) (h := ?_)
        rintro _ -
        try dsimp only
        refine Te (e := Yld.eff (yld_indexAddrS (by rfl) (by rfl) (by exact Tryz.runUnderlying66) (by exact Tryz.sizeOf69) (by repeat (first | exact .here | apply Sel.there)) (j - 1) (by first | rfl | omega) (by omega) (by omega) (by rfl))) (h := ?_)
        rintro _ -
        try dsimp only
        refine Te0 (e := e_storeS (hm := by exact Tryz.sizeOf69) (h1 := by rfl) (hne := by first | (simp; done) | (intro h; cases h)) (hl' := by exact setAts_flat holdC_len (by rw [List.length_set]; omega))) (h := ?_)
        rintro _ -
        try dsimp only
        refine WT.done ?_
        exact Kgoto JR6 () trivial
       exact WT.stop
      refine WT.alt ?_ ?_
      ·
       refine Te (e := Yld.eff (yld_loadSA (by rfl) (by exact Tryz.isAgg69) (by exact Tryz.sizeOf69) (by repeat (first | exact .here | apply Sel.there)) (by exact flat_cells holdC_len hx))) (h := ?_)
       rintro _ -
       try dsimp only
       refine Te (e := Yld.eff (yld_indexAddrS (by rfl) (by rfl) (by exact Tryz.runUnderlying66) (by exact Tryz.sizeOf69) (by repeat (first | exact .here | apply Sel.there)) (j - 1) (by first | rfl | omega) (by omega) (by omega) (by rfl))) (h := ?_)
       rintro _ -
       try dsimp only
       refine Te (e := Yld.eff (yld_loadSA (by rfl) (by exact Tryz.isAgg69) (by exact Tryz.sizeOf69) (by repeat (first | exact .here | apply Sel.there)) (by exact flat_cells holdC_len hy))) (h := ?_)
       rintro _ -
       try dsimp only
       refine Te (e := Yld.eff (yld_indexAddrS (by rfl) (by rfl) (by exact Tryz.runUnderlying66) (by exact Tryz.sizeOf69) (by repeat (first | exact .here | apply Sel.there)) (j) (by first | rfl | omega) (by omega) (by omega) (by rfl))) (h := ?_)
       rintro _ -
       try dsimp only
       refine Te0 (e := e_storeS (hm := by exact Tryz.sizeOf69) (h1 := by rfl) (hne := by first | (simp; done) | (intro h; cases h)) (hl' := by exact setAts_flat holdC_len (by omega))) (h := ?_)
       rintro _ -
       try dsimp only
       refine Te (e := Yld.eff (yld_indexAddrS (by rfl) (by rfl) (by exact Tryz.runUnderlying66) (by exact Tryz.sizeOf69) (by repeat (first | exact .here | apply Sel.there)) (j - 1) (by first | rfl | omega) (by omega) (by omega) (by rfl))) (h := ?_)
       rintro _ -
       try dsimp only
       refine Te0 (e := e_storeS (hm := by exact Tryz.sizeOf69) (h1 := by rfl) (hne := by first | (simp; done) | (intro h; cases h)) (hl' := by exact setAts_flat holdC_len (by rw [List.length_set]; omega))) (h := ?_)
       rintro _ -
       try dsimp only
       refine WT.done ?_
       exact Kgoto JR6 () trivial
      exact WT.stop
     exact WT.stop
   ·
    have hc34 := of_decide_eq_false hc34
    refine WK.exit ?_
    repeat (first | refine XQ.then_ ?_ | refine XQ.block (by rfl) ?_)
    refine XQ.here ?_
    refine WK.endBlock ?_
    refine WK.region ?_
    refine Ly y_move ?_
    refine Ly y_add ?_
    refine Ly y_assign ?_
    refine WL.done ?_
    refine Knext hN (i + 1, cur) ⟨by dsimp only; omega, by dsimp only; omega, hI.perm, hI.done hw (.inr ⟨x, y, hx, hy, hc34⟩)⟩ (by dsimp only; omega)
  ·
   have hc21 := of_decide_eq_false hc21
   refine Oz (h := ?_)
   refine Oz (h := ?_)
   refine Oz (h := ?_)
   refine Oz (h := ?_)
   refine Oz (h := ?_)
   refine Oz (h := ?_)
   refine Oz (h := ?_)
   refine Oz (h := ?_)
   refine Oz (h := ?_)
   refine Oz (h := ?_)
   refine OzE (h := ?_)
   refine Oz (h := ?_)
   refine Oy (y := y_pick_false) (h := ?_)
   refine WO.done ?_
   refine Kcond (ht := fun h => by cases h) (hf := fun _ => ?_)
   refine WK.exit ?_
   repeat (first | refine XQ.then_ ?_ | refine XQ.block (by rfl) ?_)
   refine XQ.here ?_
   refine WK.endBlock ?_
   refine WK.region ?_
   refine Ly y_move ?_
   refine Ly y_add ?_
   refine Ly y_assign ?_
   refine WL.done ?_
   refine Knext hN (i + 1, cur) ⟨by dsimp only; omega, by dsimp only; omega, hI.perm, hI.done hw (.inl (by omega))⟩ (by dsimp only; omega)
 ·
  have hc14 := of_decide_eq_false hc14
  refine WK.exit ?_
  repeat (first | refine XQ.then_ ?_ | refine XQ.block (by rfl) ?_)
  refine XQ.here ?_
  refine WK.fall (results0 (by rfl)) (fun w s => ?_)
  refine ⟨cur, ⟨hpm, ?_⟩, rfl, s.toCs (by repeat (first | exact SelL.nil | exact SelL.self | apply SelL.cons | exact Sel.here | apply Sel.there | apply SelL.skip))⟩
  refine SrtN.pairwise fun p q x y h1 h2 => hsr p q x y h1 (by omega)
set_option maxRecDepth 20000 in
set_option maxHeartbeats 4000000 in
theorem pdq12_hold (lim : Int) (f : FuncId) (caps : List Value) (X : HProp) (c : HoldM → HoldM → Int) (S : HoldM → Prop) (hp : CmpF Tryz.prog f caps X (fun x => Value.agg (holdC x).toArray) S c) (hw : SWOc c) (ad : Option Addr) (len cap : Nat) (l : List HoldM) (hlen : len ≤ 12) (hS : ∀ x ∈ l, S x) :
  Triple Tryz.prog 73 #[.slice ad len cap, .int .i64 0, .int .i64 (len : Int), .int .i64 lim, .func (.func f) #[] caps.toArray] [sl true 69 3 ad len cap (flat holdC l), X] (List HoldM) (fun l2 => l2.Perm l ∧ l2.Pairwise (fun x y => ¬ c y x < 0)) (fun _ => .tuple #[]) (fun l2 => [sl true 69 3 ad len cap (flat holdC l2), X]) := by
 refine Triple.of_body (args := [.slice ad len cap, .int .i64 0, .int .i64 (len : Int), .int .i64 lim, .func (.func f) #[] caps.toArray]) Tryz.func73 rfl Tryz.ntmps73 (by simp) (fun g F => ?_)
 dsimp only [numb, List.cons_append, List.nil_append]
 refine WK.seq ?_
 refine WK.region ?_
 refine Ly y_assign ?_
 refine WL.done ?_
 refine WK.seq ?_
 refine WK.region ?_
 refine Ly y_assign ?_
 refine WL.done ?_
 refine WK.block ?_
 refine Kloop (ι := Unit) (fun _ => True) (fun _ => [(0, .slice ad len cap), (1, .int .i64 0), (2, .int .i64 (len : Int)), (3, .int .i64 lim), (4, .func (.func f) #[] caps.toArray)]) (fun _ => sl true 69 3 ad len cap (flat holdC l) :: X :: F) (fun _ => 0) (()) (trivial) (round := ?_)
 rintro _ - N hN
 refine WK.block ?_
 refine WK.seq ?_
 refine WK.region ?_
 refine Ly y_move ?_
 refine Ly y_move ?_
 refine Ly y_sub ?_
 refine Ly y_assign ?_
 refine WL.done ?_
 refine WK.seq ?_
 refine WK.seq ?_
 refine WK.region ?_
 refine Ly y_move ?_
 refine Ly y_leq ?_
 refine WL.done ?_
 refine Kcond (ht := fun hc25 => ?_) (hf := fun hc25 => ?_)
 ·
  have hc25 := of_decide_eq_true hc25
  refine WK.seq ?_
  refine WK.region ?_
  refine Ly y_move ?_
  refine Ly y_move ?_
  refine Ly y_move ?_
  refine Ly y_move ?_
  refine Le (e_call (by exact Tryz.call101) (t := insort_hold f caps X c S hp hw ad len cap l (by omega) hS)) ?_
  rintro l2 hl2
  try dsimp only
  refine WL.done ?_
  refine WK.ret ?_
  repeat (first | refine RQ.block ?_ | refine RQ.then_ ?_)
  refine RQ.body (results0 (by rfl)) (fun w s => ?_)
  exact ⟨l2, hl2, rfl, s.toCs (by repeat (first | exact SelL.nil | exact SelL.self | apply SelL.cons | exact Sel.here | apply Sel.there | apply SelL.skip))⟩
 ·
  have hc25 := of_decide_eq_false hc25
  exfalso
  omega
set_option maxRecDepth 20000 in
set_option maxHeartbeats 4000000 in
theorem sort12_hold (f : FuncId) (caps : List Value) (X : HProp) (c : HoldM → HoldM → Int) (S : HoldM → Prop) (hp : CmpF Tryz.prog f caps X (fun x => Value.agg (holdC x).toArray) S c) (hw : SWOc c) (ad : Option Addr) (len cap : Nat) (l : List HoldM) (hlen : len ≤ 12) (hS : ∀ x ∈ l, S x) :
  Triple Tryz.prog 57 #[.slice ad len cap, .func (.func f) #[] caps.toArray] [sl true 69 3 ad len cap (flat holdC l), X] (List HoldM) (fun l2 => l2.Perm l ∧ l2.Pairwise (fun x y => ¬ c y x < 0)) (fun _ => .tuple #[]) (fun l2 => [sl true 69 3 ad len cap (flat holdC l2), X]) := by
 refine Triple.of_body (args := [.slice ad len cap, .func (.func f) #[] caps.toArray]) Tryz.func57 rfl Tryz.ntmps57 (by simp) (fun g F => ?_)
 dsimp only [numb, List.cons_append, List.nil_append]
 refine WK.seq ?_
 refine WK.region ?_
 refine Ly y_move ?_
 refine Ly (y_len (hu := by exact Tryz.runUnderlying66)) ?_
 refine Ly y_assign ?_
 refine WL.done ?_
 refine WK.region ?_
 refine Ly y_move ?_
 refine Ly y_move ?_
 refine Ly y_move ?_
 refine Ly (y_convInt (h1 := by exact Tryz.runUnderlying3) (h2 := by exact Tryz.runUnderlying137) (hr := show IntKind.u64.wrap (len : Int) = (len : Int) from wU64 (by omega) (by omega))) ?_
 refine Le (e_call (by exact Tryz.call67) (t := bitsLen_spec len hlen)) ?_
 rintro lim -
 try dsimp only
 refine Ly y_move ?_
 refine Le (e_call (by exact Tryz.call73) (t := pdq12_hold lim f caps X c S hp hw ad len cap l (by omega) hS)) ?_
 rintro l2 hl2
 try dsimp only
 refine WL.done ?_
 refine WK.fall (results0 (by rfl)) (fun w s => ?_)
 exact ⟨l2, hl2, rfl, s.toCs (by repeat (first | exact SelL.nil | exact SelL.self | apply SelL.cons | exact Sel.here | apply Sel.there | apply SelL.skip))⟩
set_option maxRecDepth 20000 in
set_option maxHeartbeats 1000000 in
theorem hcmp_spec (x y : HoldM) (hx : smallH x) (hy : smallH y) :
  Triple Tryz.prog 58 #[.agg #[.int .i64 x.account, .int .i64 x.item, .int .i64 x.n], .agg #[.int .i64 y.account, .int .i64 y.item, .int .i64 y.n]] [] (Unit) (fun _ => True) (fun _ => .int .i64 (cmpH x y)) (fun _ => []) := by
 refine Triple.of_body (args := [.agg #[.int .i64 x.account, .int .i64 x.item, .int .i64 x.n], .agg #[.int .i64 y.account, .int .i64 y.item, .int .i64 y.n]]) Tryz.func58 rfl Tryz.ntmps58 (by simp) (fun g F => ?_)
 dsimp only [numb, List.cons_append, List.nil_append]
 obtain ⟨hx1, hx2⟩ := hx
 obtain ⟨hy1, hy2⟩ := hy
 refine WK.seq ?_
 refine WK.region ?_
 refine Le e_box ?_
 rintro b2 -
 try dsimp only
 refine Le e_box ?_
 rintro b3 -
 try dsimp only
 refine Ly y_assign ?_
 refine WL.done ?_
 refine WK.seq ?_
 refine WK.seq ?_
 refine WK.region ?_
 refine Ly (y_fieldAddr (hu := by exact Tryz.runUnderlying69) (hs := by exact Tryz.sizeOf3)) ?_
 refine Ly (y_load (ha := by exact Tryz.isAgg3)) ?_
 refine Ly (y_fieldAddr (hu := by exact Tryz.runUnderlying69) (hs := by exact Tryz.sizeOf3)) ?_
 refine Ly (y_load (ha := by exact Tryz.isAgg3)) ?_
 refine Ly y_neq ?_
 refine WL.done ?_
 refine Kcond (ht := fun hc9 => ?_) (hf := fun hc9 => ?_)
 ·
  have hc9 := of_decide_eq_true hc9
  refine WK.seq ?_
  refine WK.region ?_
  refine Ly (y_fieldAddr (hu := by exact Tryz.runUnderlying69) (hs := by exact Tryz.sizeOf3)) ?_
  refine Ly (y_load (ha := by exact Tryz.isAgg3)) ?_
  refine Ly (y_fieldAddr (hu := by exact Tryz.runUnderlying69) (hs := by exact Tryz.sizeOf3)) ?_
  refine Ly (y_load (ha := by exact Tryz.isAgg3)) ?_
  refine Ly y_sub ?_
  refine Ly y_assign ?_
  refine WL.done ?_
  refine WK.ret ?_
  repeat (first | refine RQ.block ?_ | refine RQ.then_ ?_)
  refine RQ.body (results1 (by rfl) (by rfl)) (fun w s => ?_)
  refine ⟨(), trivial, ?_, Sat.drop (l := [_, _]) s⟩
  rw [cmpH, if_pos hc9]
 ·
  have hc9 := of_decide_eq_false hc9
  refine WK.skip ?_
  refine WK.seq ?_
  refine WK.region ?_
  refine Ly (y_fieldAddr (hu := by exact Tryz.runUnderlying69) (hs := by exact Tryz.sizeOf3)) ?_
  refine Ly (y_load (ha := by exact Tryz.isAgg3)) ?_
  refine Ly (y_fieldAddr (hu := by exact Tryz.runUnderlying69) (hs := by exact Tryz.sizeOf3)) ?_
  refine Ly (y_load (ha := by exact Tryz.isAgg3)) ?_
  refine Ly y_sub ?_
  refine Ly y_assign ?_
  refine WL.done ?_
  refine WK.ret ?_
  repeat (first | refine RQ.block ?_ | refine RQ.then_ ?_)
  refine RQ.body (results1 (by rfl) (by rfl)) (fun w s => ?_)
  refine ⟨(), trivial, ?_, Sat.drop (l := [_, _]) s⟩
  rw [cmpH, if_neg hc9]
theorem hcmp_pred : CmpF Tryz.prog 58 [] (pack []) (fun x => Value.agg (holdC x).toArray) smallH cmpH := ⟨Tryz.call58, fun x y hx hy => (hcmp_spec x y hx hy).withX [pack []]⟩
end Go.Proofs.YtkakfmcjiabjjaaGreatDoor
