import Derived.Test.YtkakfmcjiabjjaaGreatDoorLegA
import Derived.Test.YtkakfmcjiabjjaaGreatDoorSrtM
namespace Go.Proofs.YtkakfmcjiabjjaaGreatDoor
set_option linter.unusedVariables false
set_option linter.unusedSimpArgs false
set_option linter.unusedSectionVars false
set_option linter.unnecessarySimpa false
open Go Go.Sep
attribute [local irreducible] row sl mapO held exL allR byt mapI slr mapK rangeK vec pack
set_option maxRecDepth 20000 in
set_option maxHeartbeats 1000000 in
theorem isNaN_spec (x : Int) :
  Triple Tryz.prog 125 #[.int .i64 x] [] (Unit) (fun _ => True) (fun _ => .bool false) (fun _ => []) := by
 refine Triple.of_body (args := [.int .i64 x]) Tryz.func125 rfl Tryz.ntmps125 (by simp) (fun g F => ?_)
 dsimp only [numb, List.cons_append, List.nil_append]
 refine WK.seq ?_
 refine WK.region ?_
 refine Ly y_assign ?_
 refine WL.done ?_
 refine WK.seq ?_
 refine WK.region ?_
 refine Ly y_move ?_
 refine Ly y_move ?_
 refine Ly y_neq ?_
 refine Ly y_assign ?_
 refine WL.done ?_
 refine WK.ret ?_
 repeat (first | refine RQ.block ?_ | refine RQ.then_ ?_)
 refine RQ.body (results1 (by rfl) (by rfl)) (fun w s => ?_)
 refine ⟨(), trivial, ?_, s⟩
 rw [decide_eq_false (by simp)]
set_option maxRecDepth 20000 in
set_option maxHeartbeats 1000000 in
theorem lessI_spec (x y : Int) :
  Triple Tryz.prog 89 #[.int .i64 x, .int .i64 y] [] (Unit) (fun _ => True) (fun _ => .bool (decide (x < y))) (fun _ => []) := by
 refine Triple.of_body (args := [.int .i64 x, .int .i64 y]) Tryz.func89 rfl Tryz.ntmps89 (by simp) (fun g F => ?_)
 dsimp only [numb, List.cons_append, List.nil_append]
 refine WK.seq ?_
 refine WK.region ?_
 refine Ly y_assign ?_
 refine WL.done ?_
 refine WK.seq ?_
 refine WK.region ?_
 refine Ly y_move ?_
 refine Le (e_call (by exact Tryz.call125) (t := isNaN_spec x)) ?_
 rintro _ -
 try dsimp only
 refine Ly y_move ?_
 refine Lz ?_
 refine Lz ?_
 refine Lz ?_
 refine Ly y_pick_false ?_
 refine Ly y_move ?_
 refine Lyg y_move ?_
 refine Lyg y_move ?_
 refine Lyg y_lss ?_
 refine Ly y_pick_false ?_
 refine Ly y_assign ?_
 refine WL.done ?_
 refine WK.ret ?_
 repeat (first | refine RQ.block ?_ | refine RQ.then_ ?_)
 refine RQ.body (results1 (by rfl) (by rfl)) (fun w s => ?_)
 exact ⟨(), trivial, rfl, s⟩
set_option maxRecDepth 20000 in
set_option maxHeartbeats 4000000 in
theorem insort_int (ad : Option Addr) (len cap : Nat) (l : List Int) (hlen : len ≤ 1000000) :
  Triple Tryz.prog 83 #[.slice ad len cap, .int .i64 0, .int .i64 (len : Int)] [sl true 3 1 ad len cap (l.map (Value.int .i64))] (List Int) (fun l2 => l2.Perm l ∧ Asc l2) (fun _ => .tuple #[]) (fun l2 => [sl true 3 1 ad len cap (l2.map (Value.int .i64))]) := by
 refine Triple.of_body (args := [.slice ad len cap, .int .i64 0, .int .i64 (len : Int)]) Tryz.func83 rfl Tryz.ntmps83 (by simp) (fun g F => ?_)
 dsimp only [numb, List.cons_append, List.nil_append]
 refine WK.know (fun w s => Sat.slLen (s.sel1 (A := sl true 3 1 ad len cap (l.map (Value.int .i64))) (by repeat (first | exact .here | apply Sel.there)))) (fun hkn => ?_)
 obtain ⟨n1, hcap, -⟩ := hkn
 simp only [Nat.mul_one, List.length_map] at n1
 refine WK.seq ?_
 refine WK.region ?_
 refine Ly y_move ?_
 refine Ly y_add ?_
 refine Ly y_assign ?_
 refine WL.done ?_
 refine WK.block ?_
 refine Kloop (ι := Nat × List Int) (fun x => 1 ≤ x.1 ∧ x.1 ≤ max 1 len ∧ x.2.Perm l ∧ SrtN cmpI x.2 x.1) (fun x => [(0, .slice ad len cap), (1, .int .i64 0), (2, .int .i64 (len : Int)), (6, .int .i64 (x.1 : Int))]) (fun x => sl true 3 1 ad len cap (x.2.map (Value.int .i64)) :: F) (fun x => len + 1 - x.1) ((1, l)) (⟨Nat.le_refl _, by omega, .refl _, fun p q x y h1 h2 => by omega⟩) (round := ?_)
 rintro ⟨i, cur⟩ ⟨hi1, hi2, hpm, hsr⟩ N hN
 dsimp only at hi1 hi2 hpm hsr ⊢
 have hcl := hpm.length_eq
 refine WK.seq ?_
 refine WK.seq ?_
 refine WK.region ?_
 refine Ly y_move ?_
 refine Ly y_move ?_
 refine Ly y_lss ?_
 refine WL.done ?_
 refine Kcond (ht := fun hc12 => ?_) (hf := fun hc12 => ?_)
 ·
  have hc12 := of_decide_eq_true hc12
  refine WK.skip ?_
  refine WK.seq ?_
  refine WK.block ?_
  refine WK.seq ?_
  refine WK.region ?_
  refine Ly y_move ?_
  refine Ly y_assign ?_
  refine WL.done ?_
  refine WK.block ?_
  refine Kloop (ι := Nat × List Int) (fun x => Ins cmpI l x.2 i x.1) (fun x => [(0, .slice ad len cap), (1, .int .i64 0), (2, .int .i64 (len : Int)), (6, .int .i64 (i : Int)), (7, .int .i64 (x.1 : Int))]) (fun x => sl true 3 1 ad len cap (x.2.map (Value.int .i64)) :: F) (fun x => x.1) ((i, cur)) (Ins.start hpm hsr) (round := ?_)
  rintro ⟨j, cur⟩ hI N2 hN2
  dsimp only at hI ⊢
  have hcl := hI.perm.length_eq
  have hji := hI.le
  refine WK.seq ?_
  refine WK.seq ?_
  refine Kdr (l := [(0, 0), (1, 0), (2, 0), (3, 0), (4, 0), (5, 0), (6, 0), (7, 0), (8, 0), (9, 0), (10, 0), (11, 0), (12, 0), (13, 1), (14, 0)]) (Cs := [sl true 3 1 ad len cap (cur.map (Value.int .i64))]) (h := ?_)
  refine Oy (y := y_move) (h := ?_)
  refine Oy (y := y_move) (h := ?_)
  refine Oy (y := y_gtr) (h := ?_)
  refine Oy (y := y_move) (h := ?_)
  refine WO.split (d := 19) (by rfl) (fun hc19 => ?_) (fun hc19 => ?_)
  ·
   have hc19 := of_decide_eq_true hc19
   obtain ⟨x, hx⟩ : ∃ x, cur[j]? = some x := ⟨_, List.getElem?_eq_getElem (by omega)⟩
   obtain ⟨y, hy⟩ : ∃ x, cur[j - 1]? = some x := ⟨_, List.getElem?_eq_getElem (by omega)⟩
   refine Oyg (y := y_move) (h := ?_)
   refine Oyg (y := y_move) (h := ?_)
   refine Oyg (y := y_indexAddrS (hu := by exact Tryz.runUnderlying22) (hz := by exact Tryz.sizeOf3) (j := j) (hi := by first | rfl | omega) (hj' := by omega) (hj := by omega) (hr := by exact Nat.mul_one _)) (h := ?_)
   refine Oyg (y := (y_loadS (ha := by exact Tryz.isAgg3) (hv := (by rw [List.getElem?_map, hx]; rfl)))) (h := ?_)
   refine Oyg (y := y_move) (h := ?_)
   refine Oyg (y := y_move) (h := ?_)
   refine Oyg (y := y_sub) (h := ?_)
   refine Oyg (y := y_indexAddrS (hu := by exact Tryz.runUnderlying22) (hz := by exact Tryz.sizeOf3) (j := j - 1) (hi := by first | rfl | omega) (hj' := by omega) (hj := by omega) (hr := by exact Nat.mul_one _)) (h := ?_)
   refine Oyg (y := (y_loadS (ha := by exact Tryz.isAgg3) (hv := (by rw [List.getElem?_map, hy]; rfl)))) (h := ?_)
   refine Oeg (e := e_call (by exact Tryz.call89) (t := lessI_spec x y)) (h := ?_)
   rintro _ -
   try dsimp only
   refine Oy (y := y_pick_true) (h := ?_)
   refine WO.done ?_
   refine Kcond (ht := fun hc30 => ?_) (hf := fun hc30 => ?_)
   ·
    refine WK.skip ?_
    refine WK.seq ?_
    refine WK.block ?_
    refine WK.cut (ι := Unit) (fun _ => True) (fun _ => [(0, .slice ad len cap), (1, .int .i64 0), (2, .int .i64 (len : Int)), (6, .int .i64 (i : Int)), (7, .int .i64 (j : Int))]) (fun _ => sl true 3 1 ad len cap (((cur.set j y).set (j - 1) x).map (Value.int .i64)) :: F) ?_ ?_
    ·
     rintro _ -
     refine WK.endBlock ?_
     refine WK.region ?_
     refine Ly y_move ?_
     refine Ly y_sub ?_
     refine Ly y_assign ?_
     refine WL.done ?_
     exact Knext hN2 (j - 1, ((cur.set j y).set (j - 1) x)) (hI.step cmpI_swo (by omega) hx hy (by have := of_decide_eq_true hc30; unfold cmpI; omega)) (by dsimp only; omega) (hK := by refine KK.cons rfl (KK.cons rfl (KK.cons rfl (KK.cons rfl (KK.cons ?_ KK.nil)))); show some (Value.int .i64 ((j : Int) - 1)) = some (Value.int .i64 ((j - 1 : Nat) : Int)); rw [show ((j - 1 : Nat) : Int) = (j : Int) - 1 from by omega])
    ·
     intro JR6
     refine KdrT (t := OT.q 0 (OT.q 1 (OT.q 2 (OT.q 3 (OT.q 4 (OT.q 5 (OT.q 6 (OT.q 7 (OT.q 10 (OT.q 11 (OT.alt 8 (OT.alt 9 (OT.e 12 (OT.e 13 (OT.e 14 (OT.e 15 (OT.e 16 (OT.e 17 OT.done)))))) (OT.alt 12 (OT.alt 9 (OT.e 13 (OT.e 14 (OT.e 15 (OT.e 16 (OT.e 17 OT.done))))) (OT.alt 13 (OT.e 9 (OT.e 14 (OT.e 15 (OT.e 16 (OT.e 17 OT.done))))) OT.stop)) OT.stop)) (OT.alt 12 (OT.alt 8 (OT.alt 9 (OT.e 13 (OT.e 14 (OT.e 15 (OT.e 16 (OT.e 17 OT.done))))) (OT.alt 13 (OT.e 9 (OT.e 14 (OT.e 15 (OT.e 16 (OT.e 17 OT.done))))) OT.stop)) (OT.alt 13 (OT.e 8 (OT.e 9 (OT.e 14 (OT.e 15 (OT.e 16 (OT.e 17 OT.done)))))) OT.stop)) OT.stop)))))))))))) (Cs := []) (h := ?_)
     refine Ty (y := y_move) (h := ?_)
     refine Ty (y := y_move) (h := ?_)
     refine Ty (y := y_move) (h := ?_)
     refine Ty (y := y_move) (h := ?_)
     refine Ty (y := y_sub) (h := ?_)
     refine Ty (y := y_move) (h := ?_)
     refine Ty (y := y_move) (h := ?_)
     refine Ty (y := y_sub) (h := ?_)
     refine Ty (y := y_move) (h := ?_)
     refine Ty (y := y_move) (h := ?_)
     refine WT.alt ?_ ?_
     ·
      refine Te (e := Yld.eff (yld_indexAddrS (by rfl) (by rfl) (by exact Tryz.runUnderlying22) (by exact Tryz.sizeOf3) (by repeat (first | exact .here | apply Sel.there)) (j - 1) (by first | rfl | omega) (by omega) (by omega) (by exact Nat.mul_one _))) (h := ?_)
      rintro _ -
      try dsimp only
      refine WT.alt ?_ ?_
      ·
       refine Te (e := (Yld.eff (yld_loadS (by rfl) (by exact Tryz.isAgg3) (by repeat (first | exact .here | apply Sel.there)) (by rw [List.getElem?_map, hy]; rfl)))) (h := ?_)
       rintro _ -
       try dsimp only
       refine Te (e := Yld.eff (yld_indexAddrS (by rfl) (by rfl) (by exact Tryz.runUnderlying22) (by exact Tryz.sizeOf3) (by repeat (first | exact .here | apply Sel.there)) (j) (by first | rfl | omega) (by omega) (by omega) (by exact Nat.mul_one _))) (h := ?_)
       rintro _ -
       try dsimp only
       refine Te (e := (Yld.eff (yld_loadS (by rfl) (by exact Tryz.isAgg3) (by repeat (first | exact .here | apply Sel.there)) (by rw [List.getElem?_map, hx]; rfl)))) (h := ?_)
       rintro _ -
       try dsimp only
       refine Te (e := Yld.eff (yld_indexAddrS (by rfl) (by rfl) (by exact Tryz.runUnderlying22) (by exact Tryz.sizeOf3) (by repeat (first | exact .here | apply Sel.there)) (j) (by first | rfl | omega) (by omega) (by omega) (by exact Nat.mul_one _))) (h := ?_)
       rintro _ -
       try dsimp only
       refine Te0 (e := e_storeS (hm := by exact Tryz.sizeOf3) (h1 := by rfl) (hne := by first | (simp; done) | (intro h; cases h)) (hl' := SetAts.cons (SetAt.mk (show j < _ from by rw [List.length_map]; omega)) SetAts.nil)) (h := ?_)
       rintro _ -
       try dsimp only
       refine Te (e := Yld.eff (yld_indexAddrS (by rfl) (by rfl) (by exact Tryz.runUnderlying22) (by exact Tryz.sizeOf3) (by repeat (first | exact .here | apply Sel.there)) (j - 1) (by first | rfl | omega) (by omega) (by omega) (by exact Nat.mul_one _))) (h := ?_)
       rintro _ -
       try dsimp only
       refine Te0 (e := (e_storeS (hm := by exact Tryz.sizeOf3) (h1 := by rfl) (hne := by first | (simp; done) | (intro h; cases h)) (hl' := (SetAts.cons (SetAt.mk (show j - 1 < _ from by rw [List.length_set, List.length_map]; omega)) SetAts.nil)))) (h := ?_)
       rintro _ -
       try dsimp only
       refine WT.done ?_
       apply WK.goto JR6 () trivial (by repeat (first | exact KK.nil | refine KK.cons (by first | rfl | (simp; done)) ?_))
       rw [List.map_set, List.map_set]
       exact (by repeat (first | exact SelL.nil | exact SelL.self | apply SelL.cons | exact Sel.here | apply Sel.there | apply SelL.skip))
      refine WT.alt ?_ ?_
      ·
       refine Te (e := Yld.eff (yld_indexAddrS (by rfl) (by rfl) (by exact Tryz.runUnderlying22) (by exact Tryz.sizeOf3) (by repeat (first | exact .here | apply Sel.there)) (j) (by first | rfl | omega) (by omega) (by omega) (by exact Nat.mul_one _))) (h := ?_)
       rintro _ -
       try dsimp only
       refine WT.alt ?_ ?_
       ·
        refine Te (e := (Yld.eff (yld_loadS (by rfl) (by exact Tryz.isAgg3) (by repeat (first | exact .here | apply Sel.there)) (by rw [List.getElem?_map, hy]; rfl)))) (h := ?_)
        rintro _ -
        try dsimp only
        refine Te (e := (Yld.eff (yld_loadS (by rfl) (by exact Tryz.isAgg3) (by repeat (first | exact .here | apply Sel.there)) (by rw [List.getElem?_map, hx]; rfl)))) (h := ?_)
        rintro _ -
        try dsimp only
        refine Te (e := Yld.eff (yld_indexAddrS (by rfl) (by rfl) (by exact Tryz.runUnderlying22) (by exact Tryz.sizeOf3) (by repeat (first | exact .here | apply Sel.there)) (j) (by first | rfl | omega) (by omega) (by omega) (by exact Nat.mul_one _))) (h := ?_)
        rintro _ -
        try dsimp only
        refine Te0 (e := e_storeS (hm := by exact Tryz.sizeOf3) (h1 := by rfl) (hne := by first | (simp; done) | (intro h; cases h)) (hl' := SetAts.cons (SetAt.mk (show j < _ from by rw [List.length_map]; omega)) SetAts.nil)) (h := ?_)
        rintro _ -
        try dsimp only
        refine Te (e := Yld.eff (yld_indexAddrS (by rfl) (by rfl) (by exact Tryz.runUnderlying22) (by exact Tryz.sizeOf3) (by repeat (first | exact .here | apply Sel.there)) (j - 1) (by first | rfl | omega) (by omega) (by omega) (by exact Nat.mul_one _))) (h := ?_)
        rintro _ -
        try dsimp only
        refine Te0 (e := (e_storeS (hm := by exact Tryz.sizeOf3) (h1 := by rfl) (hne := by first | (simp; done) | (intro h; cases h)) (hl' := (SetAts.cons (SetAt.mk (show j - 1 < _ from by rw [List.length_set, List.length_map]; omega)) SetAts.nil)))) (h := ?_)
        rintro _ -
        try dsimp only
        refine WT.done ?_
        apply WK.goto JR6 () trivial (by repeat (first | exact KK.nil | refine KK.cons (by first | rfl | (simp; done)) ?_))
        rw [List.map_set, List.map_set]
        exact (by repeat (first | exact SelL.nil | exact SelL.self | apply SelL.cons | exact Sel.here | apply Sel.there | apply SelL.skip))
       refine WT.alt ?_ ?_
       ·
        refine Te (e := (Yld.eff (yld_loadS (by rfl) (by exact Tryz.isAgg3) (by repeat (first | exact .here | apply Sel.there)) (by rw [List.getElem?_map, hx]; rfl)))) (h := ?_)
        rintro _ -
        try dsimp only
        refine Te (e := (Yld.eff (yld_loadS (by rfl) (by exact Tryz.isAgg3) (by repeat (first | exact .here | apply Sel.there)) (by rw [List.getElem?_map, hy]; rfl)))) (h := ?_)
        rintro _ -
        try dsimp only
        refine Te (e := Yld.eff (yld_indexAddrS (by rfl) (by rfl) (by exact Tryz.runUnderlying22) (by exact Tryz.sizeOf3) (by repeat (first | exact .here | apply Sel.there)) (j) (by first | rfl | omega) (by omega) (by omega) (by exact Nat.mul_one _))) (h := ?_)
        rintro _ -
        try dsimp only
        refine Te0 (e := e_storeS (hm := by exact Tryz.sizeOf3) (h1 := by rfl) (hne := by first | (simp; done) | (intro h; cases h)) (hl' := SetAts.cons (SetAt.mk (show j < _ from by rw [List.length_map]; omega)) SetAts.nil)) (h := ?_)
        rintro _ -
        try dsimp only
        refine Te (e := Yld.eff (yld_indexAddrS (by rfl) (by rfl) (by exact Tryz.runUnderlying22) (by exact Tryz.sizeOf3) (by repeat (first | exact .here | apply Sel.there)) (j - 1) (by first | rfl | omega) (by omega) (by omega) (by exact Nat.mul_one _))) (h := ?_)
        rintro _ -
        try dsimp only
        refine Te0 (e := (e_storeS (hm := by exact Tryz.sizeOf3) (h1 := by rfl) (hne := by first | (simp; done) | (intro h; cases h)) (hl' := (SetAts.cons (SetAt.mk (show j - 1 < _ from by rw [List.length_set, List.length_map]; omega)) SetAts.nil)))) (h := ?_)
        rintro _ -
        try dsimp only
        refine WT.done ?_
        apply WK.goto JR6 () trivial (by repeat (first | exact KK.nil | refine KK.cons (by first | rfl | (simp; done)) ?_))
        rw [List.map_set, List.map_set]
        exact (by repeat (first | exact SelL.nil | exact SelL.self | apply SelL.cons | exact Sel.here | apply Sel.there | apply SelL.skip))
       exact WT.stop
      exact WT.stop
     refine WT.alt ?_ ?_
     ·
      refine Te (e := Yld.eff (yld_indexAddrS (by rfl) (by rfl) (by exact Tryz.runUnderlying22) (by exact Tryz.sizeOf3) (by repeat (first | exact .here | apply Sel.there)) (j) (by first | rfl | omega) (by omega) (by omega) (by exact Nat.mul_one _))) (h := ?_)
      rintro _ -
      try dsimp only
      refine WT.alt ?_ ?_
      ·
       refine Te (e := Yld.eff (yld_indexAddrS (by rfl) (by rfl) (by exact Tryz.runUnderlying22) (by exact Tryz.sizeOf3) (by repeat (first | exact .here | apply Sel.there)) (j - 1) (by first | rfl | omega) (by omega) (by omega) (by exact Nat.mul_one _))) (h := ?_)
       rintro _ -
       try dsimp only
       refine WT.alt ?_ ?_
       ·
        refine Te (e := (Yld.eff (yld_loadS (by rfl) (by exact Tryz.isAgg3) (by repeat (first | exact .here | apply Sel.there)) (by rw [List.getElem?_map, hy]; rfl)))) (h := ?_)
        rintro _ -
        try dsimp only
        refine Te (e := (Yld.eff (yld_loadS (by rfl) (by exact Tryz.isAgg3) (by repeat (first | exact .here | apply Sel.there)) (by rw [List.getElem?_map, hx]; rfl)))) (h := ?_)
        rintro _ -
        try dsimp only
        refine Te (e := Yld.eff (yld_indexAddrS (by rfl) (by rfl) (by exact Tryz.runUnderlying22) (by exact Tryz.sizeOf3) (by repeat (first | exact .here | apply Sel.there)) (j) (by first | rfl | omega) (by omega) (by omega) (by exact Nat.mul_one _))) (h := ?_)
        rintro _ -
        try dsimp only
        refine Te0 (e := e_storeS (hm := by exact Tryz.sizeOf3) (h1 := by rfl) (hne := by first | (simp; done) | (intro h; cases h)) (hl' := SetAts.cons (SetAt.mk (show j < _ from by rw [List.length_map]; omega)) SetAts.nil)) (h := ?_)
        rintro _ -
        try dsimp only
        refine Te (e := Yld.eff (yld_indexAddrS (by rfl) (by rfl) (by exact Tryz.runUnderlying22) (by exact Tryz.sizeOf3) (by repeat (first | exact .here | apply Sel.there)) (j - 1) (by first | rfl | omega) (by omega) (by omega) (by exact Nat.mul_one _))) (h := ?_)
        rintro _ -
        try dsimp only
        refine Te0 (e := (e_storeS (hm := by exact Tryz.sizeOf3) (h1 := by rfl) (hne := by first | (simp; done) | (intro h; cases h)) (hl' := (SetAts.cons (SetAt.mk (show j - 1 < _ from by rw [List.length_set, List.length_map]; omega)) SetAts.nil)))) (h := ?_)
        rintro _ -
        try dsimp only
        refine WT.done ?_
        apply WK.goto JR6 () trivial (by repeat (first | exact KK.nil | refine KK.cons (by first | rfl | (simp; done)) ?_))
        rw [List.map_set, List.map_set]
        exact (by repeat (first | exact SelL.nil | exact SelL.self | apply SelL.cons | exact Sel.here | apply Sel.there | apply SelL.skip))
       refine WT.alt ?_ ?_
       ·
        refine Te (e := (Yld.eff (yld_loadS (by rfl) (by exact Tryz.isAgg3) (by repeat (first | exact .here | apply Sel.there)) (by rw [List.getElem?_map, hx]; rfl)))) (h := ?_)
        rintro _ -
        try dsimp only
        refine Te (e := (Yld.eff (yld_loadS (by rfl) (by exact Tryz.isAgg3) (by repeat (first | exact .here | apply Sel.there)) (by rw [List.getElem?_map, hy]; rfl)))) (h := ?_)
        rintro _ -
        try dsimp only
        refine Te (e := Yld.eff (yld_indexAddrS (by rfl) (by rfl) (by exact Tryz.runUnderlying22) (by exact Tryz.sizeOf3) (by repeat (first | exact .here | apply Sel.there)) (j) (by first | rfl | omega) (by omega) (by omega) (by exact Nat.mul_one _))) (h := ?_)
        rintro _ -
        try dsimp only
        refine Te0 (e := e_storeS (hm := by exact Tryz.sizeOf3) (h1 := by rfl) (hne := by first | (simp; done) | (intro h; cases h)) (hl' := SetAts.cons (SetAt.mk (show j < _ from by rw [List.length_map]; omega)) SetAts.nil)) (h := ?_)
        rintro _ -
        try dsimp only
        refine Te (e := Yld.eff (yld_indexAddrS (by rfl) (by rfl) (by exact Tryz.runUnderlying22) (by exact Tryz.sizeOf3) (by repeat (first | exact .here | apply Sel.there)) (j - 1) (by first | rfl | omega) (by omega) (by omega) (by exact Nat.mul_one _))) (h := ?_)
        rintro _ -
        try dsimp only
        refine Te0 (e := (e_storeS (hm := by exact Tryz.sizeOf3) (h1 := by rfl) (hne := by first | (simp; done) | (intro h; cases h)) (hl' := (SetAts.cons (SetAt.mk (show j - 1 < _ from by rw [List.length_set, List.length_map]; omega)) SetAts.nil)))) (h := ?_)
        rintro _ -
        try dsimp only
        refine WT.done ?_
        apply WK.goto JR6 () trivial (by repeat (first | exact KK.nil | refine KK.cons (by first | rfl | (simp; done)) ?_))
        rw [List.map_set, List.map_set]
        exact (by repeat (first | exact SelL.nil | exact SelL.self | apply SelL.cons | exact Sel.here | apply Sel.there | apply SelL.skip))
       exact WT.stop
      refine WT.alt ?_ ?_
      ·
       refine Te (e := (Yld.eff (yld_loadS (by rfl) (by exact Tryz.isAgg3) (by repeat (first | exact .here | apply Sel.there)) (by rw [List.getElem?_map, hx]; rfl)))) (h := ?_)
       rintro _ -
       try dsimp only
       refine Te (e := Yld.eff (yld_indexAddrS (by rfl) (by rfl) (by exact Tryz.runUnderlying22) (by exact Tryz.sizeOf3) (by repeat (first | exact .here | apply Sel.there)) (j - 1) (by first | rfl | omega) (by omega) (by omega) (by exact Nat.mul_one _))) (h := ?_)
       rintro _ -
       try dsimp only
       refine Te (e := (Yld.eff (yld_loadS (by rfl) (by exact Tryz.isAgg3) (by repeat (first | exact .here | apply Sel.there)) (by rw [List.getElem?_map, hy]; rfl)))) (h := ?_)
       rintro _ -
       try dsimp only
       refine Te (e := Yld.eff (yld_indexAddrS (by rfl) (by rfl) (by exact Tryz.runUnderlying22) (by exact Tryz.sizeOf3) (by repeat (first | exact .here | apply Sel.there)) (j) (by first | rfl | omega) (by omega) (by omega) (by exact Nat.mul_one _))) (h := ?_)
       rintro _ -
       try dsimp only
       refine Te0 (e := e_storeS (hm := by exact Tryz.sizeOf3) (h1 := by rfl) (hne := by first | (simp; done) | (intro h; cases h)) (hl' := SetAts.cons (SetAt.mk (show j < _ from by rw [List.length_map]; omega)) SetAts.nil)) (h := ?_)
       rintro _ -
       try dsimp only
       refine Te (e := Yld.eff (yld_indexAddrS (by rfl) (by rfl) (by exact Tryz.runUnderlying22) (by exact Tryz.sizeOf3) (by repeat (first | exact .here | apply Sel.there)) (j - 1) (by first | rfl | omega) (by omega) (by omega) (by exact Nat.mul_one _))) (h := ?_)
       rintro _ -
       try dsimp only
       refine Te0 (e := (e_storeS (hm := by exact Tryz.sizeOf3) (h1 := by rfl) (hne := by first | (simp; done) | (intro h; cases h)) (hl' := (SetAts.cons (SetAt.mk (show j - 1 < _ from by rw [List.length_set, List.length_map]; omega)) SetAts.nil)))) (h := ?_)
       rintro _ -
       try dsimp only
       refine WT.done ?_
       apply WK.goto JR6 () trivial (by repeat (first | exact KK.nil | refine KK.cons (by first | rfl | (simp; done)) ?_))
       rw [List.map_set, List.map_set]
       exact (by repeat (first | exact SelL.nil | exact SelL.self | apply SelL.cons | exact Sel.here | apply Sel.there | apply SelL.skip))
      exact WT.stop
     exact WT.stop
   ·
    refine WK.exit ?_
    repeat (first | refine XQ.then_ ?_ | refine XQ.block (by rfl) ?_)
    refine XQ.here ?_
    refine WK.endBlock ?_
    refine WK.region ?_
    refine Ly y_move ?_
    refine Ly y_add ?_
    refine Ly y_assign ?_
    refine WL.done ?_
    refine Knext hN (i + 1, cur) ⟨by dsimp only; omega, by dsimp only; omega, hI.perm, hI.done cmpI_swo (.inr ⟨x, y, hx, hy, by have := of_decide_eq_false hc30; unfold cmpI; omega⟩)⟩ (by dsimp only; omega)
  ·
   have hc19 := of_decide_eq_false hc19
   refine Oz (h := ?_)
   refine Oz (h := ?_)
   refine Oz (h := ?_)
   refine Oz (h := ?_)
   refine Oz (h := ?_)
   refine Oz (h := ?_)
   refine Oz (h := ?_)
   refine Oz (h := ?_)
   refine Oz (h := ?_)
   refine OzE (h := ?_)
   refine Oy (y := y_pick_false) (h := ?_)
   refine WO.done ?_
   refine Kcond (ht := fun h => by cases h) (hf := fun _ => ?_)
   refine WK.exit ?_
   repeat (first | refine XQ.then_ ?_ | refine XQ.block (by rfl) ?_)
   refine XQ.here ?_
   refine WK.endBlock ?_
   refine WK.region ?_
   refine Ly y_move ?_
   refine Ly y_add ?_
   refine Ly y_assign ?_
   refine WL.done ?_
   refine Knext hN (i + 1, cur) ⟨by dsimp only; omega, by dsimp only; omega, hI.perm, hI.done cmpI_swo (.inl (by omega))⟩ (by dsimp only; omega)
 ·
  have hc12 := of_decide_eq_false hc12
  refine WK.exit ?_
  repeat (first | refine XQ.then_ ?_ | refine XQ.block (by rfl) ?_)
  refine XQ.here ?_
  refine WK.fall (results0 (by rfl)) (fun w s => ?_)
  refine ⟨cur, ⟨hpm, ?_⟩, rfl, s.toCs (by repeat (first | exact SelL.nil | exact SelL.self | apply SelL.cons | exact Sel.here | apply Sel.there | apply SelL.skip))⟩
  exact SrtN.pairwise fun p q x y h1 h2 => hsr p q x y h1 (by omega)
set_option maxRecDepth 20000 in
set_option maxHeartbeats 4000000 in
theorem pdq12_int (lim : Int) (ad : Option Addr) (len cap : Nat) (l : List Int) (hlen : len ≤ 12) :
  Triple Tryz.prog 66 #[.slice ad len cap, .int .i64 0, .int .i64 (len : Int), .int .i64 lim] [sl true 3 1 ad len cap (l.map (Value.int .i64))] (List Int) (fun l2 => l2.Perm l ∧ Asc l2) (fun _ => .tuple #[]) (fun l2 => [sl true 3 1 ad len cap (l2.map (Value.int .i64))]) := by
 refine Triple.of_body (args := [.slice ad len cap, .int .i64 0, .int .i64 (len : Int), .int .i64 lim]) Tryz.func66 rfl Tryz.ntmps66 (by simp) (fun g F => ?_)
 dsimp only [numb, List.cons_append, List.nil_append]
 refine WK.seq ?_
 refine WK.region ?_
 refine Ly y_assign ?_
 refine WL.done ?_
 refine WK.seq ?_
 refine WK.region ?_
 refine Ly y_assign ?_
 refine WL.done ?_
 refine WK.block ?_
 refine Kloop (ι := Unit) (fun _ => True) (fun _ => [(0, .slice ad len cap), (1, .int .i64 0), (2, .int .i64 (len : Int)), (3, .int .i64 lim)]) (fun _ => sl true 3 1 ad len cap (l.map (Value.int .i64)) :: F) (fun _ => 0) (()) (trivial) (round := ?_)
 rintro _ - N hN
 refine WK.block ?_
 refine WK.seq ?_
 refine WK.region ?_
 refine Ly y_move ?_
 refine Ly y_move ?_
 refine Ly y_sub ?_
 refine Ly y_assign ?_
 refine WL.done ?_
 refine WK.seq ?_
 refine WK.seq ?_
 refine WK.region ?_
 refine Ly y_move ?_
 refine Ly y_leq ?_
 refine WL.done ?_
 refine Kcond (ht := fun hc23 => ?_) (hf := fun hc23 => ?_)
 ·
  have hc23 := of_decide_eq_true hc23
  refine WK.seq ?_
  refine WK.region ?_
  refine Ly y_move ?_
  refine Ly y_move ?_
  refine Ly y_move ?_
  refine Le (e_call (by exact Tryz.call83) (t := insort_int ad len cap l (by omega))) ?_
  rintro l2 hl2
  try dsimp only
  refine WL.done ?_
  refine WK.ret ?_
  repeat (first | refine RQ.block ?_ | refine RQ.then_ ?_)
  refine RQ.body (results0 (by rfl)) (fun w s => ?_)
  exact ⟨l2, hl2, rfl, s.toCs (by repeat (first | exact SelL.nil | exact SelL.self | apply SelL.cons | exact Sel.here | apply Sel.there | apply SelL.skip))⟩
 ·
  have hc23 := of_decide_eq_false hc23
  exfalso
  omega
set_option maxRecDepth 20000 in
set_option maxHeartbeats 4000000 in
theorem sort12_int (ad : Option Addr) (len cap : Nat) (l : List Int) (hlen : len ≤ 12) :
  Triple Tryz.prog 47 #[.slice ad len cap] [sl true 3 1 ad len cap (l.map (Value.int .i64))] (List Int) (fun l2 => l2.Perm l ∧ Asc l2) (fun _ => .tuple #[]) (fun l2 => [sl true 3 1 ad len cap (l2.map (Value.int .i64))]) := by
 refine Triple.of_body (args := [.slice ad len cap]) Tryz.func47 rfl Tryz.ntmps47 (by simp) (fun g F => ?_)
 dsimp only [numb, List.cons_append, List.nil_append]
 refine WK.seq ?_
 refine WK.region ?_
 refine Ly y_move ?_
 refine Ly (y_len (hu := by exact Tryz.runUnderlying22)) ?_
 refine Ly y_assign ?_
 refine WL.done ?_
 refine WK.region ?_
 refine Ly y_move ?_
 refine Ly y_move ?_
 refine Ly y_move ?_
 refine Ly (y_convInt (h1 := by exact Tryz.runUnderlying3) (h2 := by exact Tryz.runUnderlying137) (hr := show IntKind.u64.wrap (len : Int) = (len : Int) from wU64 (by omega) (by omega))) ?_
 refine Le (e_call (by exact Tryz.call67) (t := bitsLen_spec len hlen)) ?_
 rintro lim -
 try dsimp only
 refine Le (e_call (by exact Tryz.call66) (t := pdq12_int lim ad len cap l hlen)) ?_
 rintro l2 hl2
 try dsimp only
 refine WL.done ?_
 refine WK.fall (results0 (by rfl)) (fun w s => ?_)
 exact ⟨l2, hl2, rfl, s.toCs (by repeat (first | exact SelL.nil | exact SelL.self | apply SelL.cons | exact Sel.here | apply Sel.there | apply SelL.skip))⟩
set_option maxRecDepth 20000 in
set_option maxHeartbeats 4000000 in
theorem compact_spec (ad : Option Addr) (len cap : Nat) (l : List Int) (hlen : len ≤ 1000000) (ha : Asc l) :
  Triple Tryz.prog 49 #[.slice ad len cap] [sl true 3 1 ad len cap (l.map (Value.int .i64))] (List Int) (fun l2 => Cpt l l2) (fun l2 => .slice ad l2.length cap) (fun l2 => [sl true 3 1 ad l2.length cap (l2.map (Value.int .i64))]) := by
 refine Triple.of_body (args := [.slice ad len cap]) Tryz.func49 rfl Tryz.ntmps49 (by simp) (fun g F => ?_)
 dsimp only [numb, List.cons_append, List.nil_append]
 refine WK.know (fun w s => Sat.slLen (s.sel1 (A := sl true 3 1 ad len cap (l.map (Value.int .i64))) (by repeat (first | exact .here | apply Sel.there)))) (fun hkn => ?_)
 obtain ⟨n1, hcap, -⟩ := hkn
 simp only [Nat.mul_one, List.length_map] at n1
 refine WK.seq ?_
 refine WK.region ?_
 refine Ly y_assign ?_
 refine WL.done ?_
 refine WK.seq ?_
 refine WK.seq ?_
 refine WK.region ?_
 refine Ly y_move ?_
 refine Ly (y_len (hu := by exact Tryz.runUnderlying22)) ?_
 refine Ly y_lss ?_
 refine WL.done ?_
 refine Kcond (ht := fun hc8 => ?_) (hf := fun hc8 => ?_)
 ·
  have hc8 := of_decide_eq_true hc8
  refine WK.seq ?_
  refine WK.region ?_
  refine Ly y_move ?_
  refine Ly y_assign ?_
  refine WL.done ?_
  refine WK.ret ?_
  repeat (first | refine RQ.block ?_ | refine RQ.then_ ?_)
  refine RQ.body (results1 (by rfl) (by rfl)) (fun w s => ?_)
  exact ⟨l, Cpt.short (by omega), by rw [n1], by rw [n1]; exact s.toCs (by repeat (first | exact SelL.nil | exact SelL.self | apply SelL.cons | exact Sel.here | apply Sel.there | apply SelL.skip))⟩
 ·
  have hc8 := of_decide_eq_false hc8
  refine WK.skip ?_
  refine WK.seq ?_
  refine WK.seq ?_
  refine WK.region ?_
  refine Ly y_assign ?_
  refine WL.done ?_
  refine WK.block ?_
  refine Kloop (ι := Nat) (fun k => 1 ≤ k ∧ k ≤ len ∧ Cmp l (l.take k) k k) (fun k => [(0, .slice ad len cap), (3, .int .i64 (k : Int))]) (fun _ => sl true 3 1 ad len cap (l.map (Value.int .i64)) :: F) (fun k => len - k) (1) (⟨Nat.le_refl _, by omega, Cmp.start (by omega)⟩) (round := ?_)
  rintro k ⟨hk1, hkl, hC⟩ N hN
  refine WK.seq ?_
  refine WK.seq ?_
  refine WK.region ?_
  refine Ly y_move ?_
  refine Ly y_move ?_
  refine Ly (y_len (hu := by exact Tryz.runUnderlying22)) ?_
  refine Ly y_lss ?_
  refine WL.done ?_
  refine Kcond (ht := fun hc13 => ?_) (hf := fun hc13 => ?_)
  ·
   have hc13 := of_decide_eq_true hc13
   obtain ⟨x, hx⟩ : ∃ x, l[k]? = some x := ⟨_, List.getElem?_eq_getElem (by omega)⟩
   obtain ⟨y, hy⟩ : ∃ x, l[k - 1]? = some x := ⟨_, List.getElem?_eq_getElem (by omega)⟩
   refine WK.skip ?_
   refine WK.seq ?_
   refine WK.block ?_
   refine WK.seq ?_
   refine KdrQ (l := [(0, 0), (1, 0), (2, 0), (3, 0), (4, 0), (5, 0), (6, 0), (7, 0), (8, 0), (9, 0)]) (h := ?_)
   refine Oy (y := y_move) (h := ?_)
   refine Oy (y := y_move) (h := ?_)
   refine Oy (y := y_indexAddrS (hu := by exact Tryz.runUnderlying22) (hz := by exact Tryz.sizeOf3) (j := k) (hi := by first | rfl | omega) (hj' := by omega) (hj := by omega) (hr := by exact Nat.mul_one _)) (h := ?_)
   refine Oy (y := (y_loadS (ha := by exact Tryz.isAgg3) (hv := (by rw [List.getElem?_map, hx]; rfl)))) (h := ?_)
   refine Oy (y := y_move) (h := ?_)
   refine Oy (y := y_move) (h := ?_)
   refine Oy (y := y_sub) (h := ?_)
   refine Oy (y := y_indexAddrS (hu := by exact Tryz.runUnderlying22) (hz := by exact Tryz.sizeOf3) (j := k - 1) (hi := by first | rfl | omega) (hj' := by omega) (hj := by omega) (hr := by exact Nat.mul_one _)) (h := ?_)
   refine Oy (y := (y_loadS (ha := by exact Tryz.isAgg3) (hv := (by rw [List.getElem?_map, hy]; rfl)))) (h := ?_)
   refine Oy (y := y_eql) (h := ?_)
   refine WO.done ?_
   refine Kcond (ht := fun hc25 => ?_) (hf := fun hc25 => ?_)
   ·
    have hc25 := of_decide_eq_true hc25
    refine WK.seq ?_
    refine WK.region ?_
    refine Ly y_move ?_
    refine Ly y_move ?_
    refine Ly (y_slice_lo (hu := by exact Tryz.runUnderlying22) (hs := by exact Tryz.sizeOf3) (l := k) (hi := by first | rfl | omega) (hl := by omega)) ?_
    refine Ly y_assign ?_
    refine WL.done ?_
    refine WK.seq ?_
    refine WK.seq ?_
    refine WK.region ?_
    refine Ly y_assign ?_
    refine WL.done ?_
    refine WK.block ?_
    rw [show l.map (Value.int .i64) = (l.take k ++ l.drop k).map (Value.int .i64) from by rw [List.take_append_drop]]
    refine Kloop (ι := Nat × Nat × List Int) (fun x => 1 ≤ x.2.1 ∧ k + x.2.1 ≤ len ∧ Cmp l x.2.2 x.1 (k + x.2.1) ∧ x.1 < k + x.2.1) (fun x => [(0, .slice ad len cap), (3, .int .i64 (x.1 : Int)), (4, .slice (cutA ad cap k 1) (len - k) (cap - k)), (5, .int .i64 (x.2.1 : Int))]) (fun x => sl true 3 1 ad len cap ((x.2.2 ++ l.drop x.1).map (Value.int .i64)) :: F) (fun x => len - x.2.1) ((k, 1, l.take k)) (⟨Nat.le_refl _, by dsimp only; omega, (by rw [hc25] at hx; exact hC.same hx hy), by dsimp only; omega⟩) (round := ?_)
    rintro ⟨kk, k2, out⟩ ⟨hk2, hk2l, hD, hkk⟩ N2 hN2
    dsimp only at hk2 hk2l hD hkk ⊢
    have hol := hD.len
    refine WK.seq ?_
    refine WK.seq ?_
    refine WK.region ?_
    refine Ly y_move ?_
    refine Ly y_move ?_
    refine Ly (y_len (hu := by exact Tryz.runUnderlying22)) ?_
    refine Ly y_lss ?_
    refine WL.done ?_
    refine Kcond (ht := fun hc32 => ?_) (hf := fun hc32 => ?_)
    ·
     have hc32 := of_decide_eq_true hc32
     obtain ⟨x2, hx2⟩ : ∃ x, l[k + k2]? = some x := ⟨_, List.getElem?_eq_getElem (by omega)⟩
     obtain ⟨y2, hy2⟩ : ∃ x, l[k + k2 - 1]? = some x := ⟨_, List.getElem?_eq_getElem (by omega)⟩
     refine WK.skip ?_
     refine WK.seq ?_
     refine WK.block ?_
     refine WK.seq ?_
     refine KdrQ (l := [(0, 0), (1, 0), (2, 0), (3, 0), (4, 0), (5, 0), (6, 0), (7, 0), (8, 0), (9, 0)]) (h := ?_)
     refine Oy (y := y_move) (h := ?_)
     refine Oy (y := y_move) (h := ?_)
     refine Oy (y := yld_indexAddrCut (l := k) (by rfl) (by rfl) (by exact Tryz.runUnderlying22) (by exact Tryz.sizeOf3) (by repeat (first | exact .here | apply Sel.there)) (k2) (by first | rfl | omega) (by omega) (by omega) (by exact Nat.mul_one _)) (h := ?_)
     refine Oy (y := (y_loadS (ha := by exact Tryz.isAgg3) (hv := (by rw [List.getElem?_map, get_drop hol (by omega), hx2]; rfl)))) (h := ?_)
     refine Oy (y := y_move) (h := ?_)
     refine Oy (y := y_move) (h := ?_)
     refine Oy (y := y_sub) (h := ?_)
     refine Oy (y := yld_indexAddrCut (l := k) (by rfl) (by rfl) (by exact Tryz.runUnderlying22) (by exact Tryz.sizeOf3) (by repeat (first | exact .here | apply Sel.there)) (k2 - 1) (by first | rfl | omega) (by omega) (by omega) (by exact Nat.mul_one _)) (h := ?_)
     refine Oy (y := (y_loadS (ha := by exact Tryz.isAgg3) (hv := (by rw [List.getElem?_map, get_drop hol (by omega), show k + (k2 - 1) = k + k2 - 1 from by omega, hy2]; rfl)))) (h := ?_)
     refine Oy (y := y_neq) (h := ?_)
     refine WO.done ?_
     refine Kcond (ht := fun hc44 => ?_) (hf := fun hc44 => ?_)
     ·
      have hc44 := of_decide_eq_true hc44
      refine WK.seq ?_
      refine WK.region ?_
      refine Ly y_move ?_
      refine Ly y_move ?_
      refine Ly y_move ?_
      refine Ly y_move ?_
      refine Ly (yld_indexAddrCut (l := k) (by rfl) (by rfl) (by exact Tryz.runUnderlying22) (by exact Tryz.sizeOf3) (by repeat (first | exact .here | apply Sel.there)) (k2) (by first | rfl | omega) (by omega) (by omega) (by exact Nat.mul_one _)) ?_
      refine Ly (y_loadS (ha := by exact Tryz.isAgg3) (hv := (by rw [List.getElem?_map, get_drop hol (by omega), hx2]; rfl))) ?_
      refine Ly (y_indexAddrS (hu := by exact Tryz.runUnderlying22) (hz := by exact Tryz.sizeOf3) (j := kk) (hi := by first | rfl | omega) (hj' := by omega) (hj := by omega) (hr := by exact Nat.mul_one _)) ?_
      refine Le0 (e_storeS (hm := by exact Tryz.sizeOf3) (h1 := by rfl) (hne := by first | (simp; done) | (intro h; cases h)) (hl' := (SetAts.cons (SetAt.mk (show kk < _ from by rw [List.length_map, List.length_append, List.length_drop]; omega)) SetAts.nil))) ?_
      rintro _ -
      try dsimp only
      refine WL.done ?_
      refine WK.region ?_
      refine Ly y_move ?_
      refine Ly y_add ?_
      refine Ly y_assign ?_
      refine WL.done ?_
      refine WK.endBlock ?_
      refine WK.region ?_
      refine Ly y_move ?_
      refine Ly y_add ?_
      refine Ly y_assign ?_
      refine WL.done ?_
      apply WK.next hN2 (kk + 1, k2 + 1, out ++ [x2]) ⟨by dsimp only; omega, by dsimp only; omega, hD.more ha hx2 hy2 hc44, by dsimp only; omega⟩ (by dsimp only; omega) (by repeat (first | exact KK.nil | refine KK.cons (by first | rfl | (simp; done)) ?_))
      dsimp only
      rw [← set_drop hol (by omega), List.map_set]
      exact (by repeat (first | exact SelL.nil | exact SelL.self | apply SelL.cons | exact Sel.here | apply Sel.there | apply SelL.skip))
     ·
      have hc44 := of_decide_eq_false hc44
      have hc44 : x2 = y2 := Classical.byContradiction hc44
      refine WK.skip ?_
      refine WK.endBlock ?_
      refine WK.region ?_
      refine Ly y_move ?_
      refine Ly y_add ?_
      refine Ly y_assign ?_
      refine WL.done ?_
      apply WK.next hN2 (kk, k2 + 1, out) ⟨by dsimp only; omega, by dsimp only; omega, hD.same hx2 (by rw [hc44]; exact hy2), by dsimp only; omega⟩ (by dsimp only; omega) (by repeat (first | exact KK.nil | refine KK.cons (by first | rfl | (simp; done)) ?_))
      exact (by repeat (first | exact SelL.nil | exact SelL.self | apply SelL.cons | exact Sel.here | apply Sel.there | apply SelL.skip))
    ·
     have hc32 := of_decide_eq_false hc32
     refine WK.exit ?_
     repeat (first | refine XQ.then_ ?_ | refine XQ.block (by rfl) ?_)
     refine XQ.here ?_
     refine WK.seq ?_
     refine WK.region ?_
     refine Ly y_move ?_
     refine Ly y_move ?_
     refine Ly (y_slice_lo (hu := by exact Tryz.runUnderlying22) (hs := by exact Tryz.sizeOf3) (l := kk) (hi := by first | rfl | omega) (hl := by omega)) ?_
     refine Le0 (e_clear (l := kk) (hu := Tryz.runUnderlying22) (hz := Tryz.zeroValue3) (hzs := by rfl) (hz1 := (by intro v hv; simp [Builtin.zeroCells, Value.cells] at hv; obtain ⟨a, _, rfl⟩ := hv; simp [Nat.mod_one, Value.oneCell'])) (hk0 := by omega) (hl := by omega) (hzl := (by simp [Builtin.zeroCells, Value.cells]))) ?_
     rintro _ -
     try dsimp only
     refine WL.done ?_
     refine WK.seq ?_
     refine WK.region ?_
     refine Ly y_move ?_
     refine Ly y_move ?_
     refine Ly (y_slice_hi (hu := by exact Tryz.runUnderlying22) (hs := by exact Tryz.sizeOf3) (h := kk) (hi := by first | rfl | omega) (hh := by omega)) ?_
     refine Ly y_assign ?_
     refine WL.done ?_
     refine WK.ret ?_
     repeat (first | refine RQ.block ?_ | refine RQ.then_ ?_)
     refine RQ.body (results1 (by rfl) (by rfl)) (fun w s => ?_)
     have hD2 := hD.done (by omega)
     refine ⟨out, hD2, by rw [hol], ?_⟩
     rw [hol]
     rw [List.map_append, Nat.mul_one, List.take_append_of_le_length (by rw [List.length_map]; omega), List.take_of_length_le (by rw [List.length_map]; omega)] at s
     have s2 := Sat.slShrink kk s (by rw [List.length_map]; omega) (by omega)
     exact s2.toCs (by repeat (first | exact SelL.nil | exact SelL.self | apply SelL.cons | exact Sel.here | apply Sel.there | apply SelL.skip))
   ·
    have hc25 := of_decide_eq_false hc25
    refine WK.skip ?_
    refine WK.endBlock ?_
    refine WK.region ?_
    refine Ly y_move ?_
    refine Ly y_add ?_
    refine Ly y_assign ?_
    refine WL.done ?_
    refine Knext hN (k + 1) ⟨by omega, by omega, ?_⟩ (by omega)
    have := hC.more ha hx hy hc25
    rw [List.take_add_one, hx]
    exact this
  ·
   have hc13 := of_decide_eq_false hc13
   refine WK.exit ?_
   repeat (first | refine XQ.then_ ?_ | refine XQ.block (by rfl) ?_)
   refine XQ.here ?_
   refine WK.seq ?_
   refine WK.region ?_
   refine Ly y_move ?_
   refine Ly y_assign ?_
   refine WL.done ?_
   refine WK.ret ?_
   repeat (first | refine RQ.block ?_ | refine RQ.then_ ?_)
   refine RQ.body (results1 (by rfl) (by rfl)) (fun w s => ?_)
   obtain rfl : k = l.length := by omega
   rw [List.take_length] at hC
   exact ⟨l, hC.done rfl, by rw [n1], by rw [n1]; exact s.toCs (by repeat (first | exact SelL.nil | exact SelL.self | apply SelL.cons | exact Sel.here | apply Sel.there | apply SelL.skip))⟩
theorem idxM_cases (pr : Int → Bool) (l : List Int) : (idxM pr l = -1 ∧ ∀ x ∈ l, pr x = false) ∨ ∃ (i : Nat) (x : Int), l[i]? = some x ∧ pr x = true ∧ (∀ y ∈ l.take i, pr y = false) ∧ idxM pr l = (i : Int) := by
  unfold idxM
  rcases h : l.findIdx? pr with _ | i
  · left
    rw [List.findIdx?_eq_none_iff] at h
    exact ⟨rfl, h⟩
  · right
    obtain ⟨hl, hp, hno⟩ := List.findIdx?_eq_some_iff_getElem.1 h
    refine ⟨i, l[i], List.getElem?_eq_getElem hl, hp, fun y hy => ?_, rfl⟩
    obtain ⟨j, hj⟩ := List.getElem?_of_mem hy
    have hji : j < i := by
      have := (List.getElem?_eq_some_iff.1 hj).1
      rw [List.length_take] at this
      omega
    rw [List.getElem?_take_of_lt hji] at hj
    obtain ⟨hjl, rfl⟩ := List.getElem?_eq_some_iff.1 hj
    simpa using hno j hji
def keepM (pr : Int → Bool) (l : List Int) : List Int := l.filter fun x => !pr x
theorem keepM_all {pr : Int → Bool} {l : List Int} (h : ∀ x ∈ l, pr x = false) : keepM pr l = l := by
  unfold keepM
  rw [List.filter_eq_self]
  intro x hx
  simp [h x hx]
theorem keepM_more {pr : Int → Bool} {l : List Int} {i : Nat} {x : Int} (h : l[i]? = some x) : keepM pr (l.take (i + 1)) = if (!pr x) = true then keepM pr (l.take i) ++ [x] else keepM pr (l.take i) := filter_more h _
set_option maxRecDepth 20000 in
set_option maxHeartbeats 4000000 in
theorem deleteFunc_spec (f : FuncId) (caps : List Value) (X : HProp) (pr : Int → Bool) (hp : PredF Tryz.prog f caps X (Value.int .i64) (fun _ => True) pr) (ad : Option Addr) (len cap : Nat) (l : List Int) (hlen : len ≤ 1000000) :
  Triple Tryz.prog 48 #[.slice ad len cap, .func (.func f) #[] caps.toArray] [sl true 3 1 ad len cap (l.map (Value.int .i64)), X] (Unit) (fun _ => True) (fun _ => .slice ad (keepM pr l).length cap) (fun _ => [sl true 3 1 ad (keepM pr l).length cap ((keepM pr l).map (Value.int .i64)), X]) := by
 refine Triple.of_body (args := [.slice ad len cap, .func (.func f) #[] caps.toArray]) Tryz.func48 rfl Tryz.ntmps48 (by simp) (fun g F => ?_)
 dsimp only [numb, List.cons_append, List.nil_append]
 refine WK.know (fun w s => Sat.slLen (s.sel1 (A := sl true 3 1 ad len cap (l.map (Value.int .i64))) (by repeat (first | exact .here | apply Sel.there)))) (fun hkn => ?_)
 obtain ⟨n1, hcap, -⟩ := hkn
 simp only [Nat.mul_one, List.length_map] at n1
 refine WK.seq ?_
 refine WK.region ?_
 refine Ly y_assign ?_
 refine WL.done ?_
 refine WK.seq ?_
 refine WK.region ?_
 refine Ly y_move ?_
 refine Ly y_move ?_
 refine Le (e_call (by exact Tryz.call65) (t := indexFunc_int f caps X pr hp true ad len cap l hlen)) ?_
 rintro _ -
 try dsimp only
 refine Ly y_assign ?_
 refine WL.done ?_
 refine WK.seq ?_
 refine WK.seq ?_
 rcases idxM_cases pr l with ⟨he, hall⟩ | ⟨i0, x0, hx0, hp0, hno, he⟩
 ·
  rw [he]
  refine WK.region ?_
  refine Ly y_move ?_
  refine Ly y_eql ?_
  refine WL.done ?_
  refine Kcond (ht := fun hc12 => ?_) (hf := fun hc12 => ?_)
  ·
   have hc12 := of_decide_eq_true hc12
   refine WK.seq ?_
   refine WK.region ?_
   refine Ly y_move ?_
   refine Ly y_assign ?_
   refine WL.done ?_
   refine WK.ret ?_
   repeat (first | refine RQ.block ?_ | refine RQ.then_ ?_)
   refine RQ.body (results1 (by rfl) (by rfl)) (fun w s => ?_)
   refine ⟨(), trivial, by rw [keepM_all hall, n1], ?_⟩
   rw [keepM_all hall, n1]
   exact s.toCs (by repeat (first | exact SelL.nil | exact SelL.self | apply SelL.cons | exact Sel.here | apply Sel.there | apply SelL.skip))
  ·
   have hc12 := of_decide_eq_false hc12
   exact (hc12 rfl).elim
 ·
  rw [he]
  have hil : i0 < len := by rw [← n1]; exact (List.getElem?_eq_some_iff.1 hx0).1
  refine WK.region ?_
  refine Ly y_move ?_
  refine Ly y_eql ?_
  refine WL.done ?_
  refine Kcond (ht := fun hc12 => ?_) (hf := fun hc12 => ?_)
  ·
   have hc12 := of_decide_eq_true hc12
   exfalso
   omega
  ·
   have hc12 := of_decide_eq_false hc12
   refine WK.skip ?_
   refine WK.seq ?_
   refine WK.seq ?_
   refine WK.region ?_
   refine Ly y_move ?_
   refine Ly y_add ?_
   refine Ly y_assign ?_
   refine WL.done ?_
   refine WK.block ?_
   rw [show l.map (Value.int .i64) = (l.take i0 ++ l.drop i0).map (Value.int .i64) from by rw [List.take_append_drop]]
   refine Kloop (ι := Nat × Nat × List Int) (fun x => x.2.1 ≤ len ∧ x.1 < x.2.1 ∧ x.2.2 = keepM pr (l.take x.2.1) ∧ x.2.2.length = x.1) (fun x => [(0, .slice ad len cap), (1, .func (.func f) #[] caps.toArray), (5, .int .i64 (x.1 : Int)), (6, .int .i64 (x.2.1 : Int))]) (fun x => sl true 3 1 ad len cap ((x.2.2 ++ l.drop x.1).map (Value.int .i64)) :: X :: F) (fun x => len - x.2.1) ((i0, i0 + 1, l.take i0)) (⟨by dsimp only; omega, by dsimp only; omega, by dsimp only; rw [keepM_more hx0, if_neg (by simp [hp0]), keepM_all hno], by dsimp only; rw [List.length_take]; omega⟩) (round := ?_)
   rintro ⟨kk, j, out⟩ ⟨hj, hkj, ho, hol⟩ N hN
   dsimp only at hj hkj ho hol ⊢
   refine WK.seq ?_
   refine WK.seq ?_
   refine WK.region ?_
   refine Ly y_move ?_
   refine Ly y_move ?_
   refine Ly (y_len (hu := by exact Tryz.runUnderlying22)) ?_
   refine Ly y_lss ?_
   refine WL.done ?_
   refine Kcond (ht := fun hc19 => ?_) (hf := fun hc19 => ?_)
   ·
    have hc19 := of_decide_eq_true hc19
    obtain ⟨x, hx⟩ : ∃ x, l[j]? = some x := ⟨_, List.getElem?_eq_getElem (by omega)⟩
    refine WK.skip ?_
    refine WK.seq ?_
    refine WK.block ?_
    refine WK.seq ?_
    refine WK.region ?_
    refine Ly y_move ?_
    refine Ly y_move ?_
    refine Ly (y_indexAddrS (hu := by exact Tryz.runUnderlying22) (hz := by exact Tryz.sizeOf3) (j := j) (hi := by first | rfl | omega) (hj' := by omega) (hj := by omega) (hr := by exact Nat.mul_one _)) ?_
    refine Ly (y_loadS (ha := by exact Tryz.isAgg3) (hv := (by rw [List.getElem?_map, get_drop hol (by omega), hx]; rfl))) ?_
    refine Ly y_assign ?_
    refine WL.done ?_
    refine WK.seq ?_
    refine WK.region ?_
    refine Ly y_move ?_
    refine Ly y_move ?_
    refine Le (e_callV (f := f) (hc := hp.call) (he := by rfl) (t := hp.spec x trivial)) ?_
    rintro _ -
    try dsimp only
    refine Ly y_not ?_
    refine WL.done ?_
    refine Kcond (ht := fun hc29 => ?_) (hf := fun hc29 => ?_)
    ·
     refine WK.seq ?_
     refine WK.region ?_
     refine Ly y_move ?_
     refine Ly y_move ?_
     refine Ly y_move ?_
     refine Ly (y_indexAddrS (hu := by exact Tryz.runUnderlying22) (hz := by exact Tryz.sizeOf3) (j := kk) (hi := by first | rfl | omega) (hj' := by omega) (hj := by omega) (hr := by exact Nat.mul_one _)) ?_
     refine Le0 (e_storeS (hm := by exact Tryz.sizeOf3) (h1 := by rfl) (hne := by first | (simp; done) | (intro h; cases h)) (hl' := (SetAts.cons (SetAt.mk (show kk < _ from by rw [List.length_map, List.length_append, List.length_drop]; omega)) SetAts.nil))) ?_
     rintro _ -
     try dsimp only
     refine WL.done ?_
     refine WK.region ?_
     refine Ly y_move ?_
     refine Ly y_add ?_
     refine Ly y_assign ?_
     refine WL.done ?_
     refine WK.endBlock ?_
     refine WK.region ?_
     refine Ly y_move ?_
     refine Ly y_add ?_
     refine Ly y_assign ?_
     refine WL.done ?_
     apply WK.next hN (kk + 1, j + 1, out ++ [x]) ⟨by dsimp only; omega, by dsimp only; omega, by dsimp only; rw [keepM_more hx, if_pos hc29, ← ho], by dsimp only; rw [List.length_append, hol]; rfl⟩ (by dsimp only; omega) (by repeat (first | exact KK.nil | refine KK.cons (by first | rfl | (simp; done)) ?_))
     dsimp only
     rw [← set_drop hol (by omega), List.map_set]
     exact (by repeat (first | exact SelL.nil | exact SelL.self | apply SelL.cons | exact Sel.here | apply Sel.there | apply SelL.skip))
    ·
     refine WK.skip ?_
     refine WK.endBlock ?_
     refine WK.region ?_
     refine Ly y_move ?_
     refine Ly y_add ?_
     refine Ly y_assign ?_
     refine WL.done ?_
     apply WK.next hN (kk, j + 1, out) ⟨by dsimp only; omega, by dsimp only; omega, by dsimp only; rw [keepM_more hx, if_neg (by rw [hc29]; simp), ← ho], hol⟩ (by dsimp only; omega) (by repeat (first | exact KK.nil | refine KK.cons (by first | rfl | (simp; done)) ?_))
     exact (by repeat (first | exact SelL.nil | exact SelL.self | apply SelL.cons | exact Sel.here | apply Sel.there | apply SelL.skip))
   ·
    have hc19 := of_decide_eq_false hc19
    refine WK.exit ?_
    repeat (first | refine XQ.then_ ?_ | refine XQ.block (by rfl) ?_)
    refine XQ.here ?_
    refine WK.seq ?_
    refine WK.region ?_
    refine Ly y_move ?_
    refine Ly y_move ?_
    refine Ly (y_slice_lo (hu := by exact Tryz.runUnderlying22) (hs := by exact Tryz.sizeOf3) (l := kk) (hi := by first | rfl | omega) (hl := by omega)) ?_
    refine Le0 (e_clear (l := kk) (hu := Tryz.runUnderlying22) (hz := Tryz.zeroValue3) (hzs := by rfl) (hz1 := (by intro v hv; simp [Builtin.zeroCells, Value.cells] at hv; obtain ⟨a, _, rfl⟩ := hv; simp [Nat.mod_one, Value.oneCell'])) (hk0 := by omega) (hl := by omega) (hzl := (by simp [Builtin.zeroCells, Value.cells]))) ?_
    rintro _ -
    try dsimp only
    refine WL.done ?_
    refine WK.seq ?_
    refine WK.region ?_
    refine Ly y_move ?_
    refine Ly y_move ?_
    refine Ly (y_slice_hi (hu := by exact Tryz.runUnderlying22) (hs := by exact Tryz.sizeOf3) (h := kk) (hi := by first | rfl | omega) (hh := by omega)) ?_
    refine Ly y_assign ?_
    refine WL.done ?_
    refine WK.ret ?_
    repeat (first | refine RQ.block ?_ | refine RQ.then_ ?_)
    refine RQ.body (results1 (by rfl) (by rfl)) (fun w s => ?_)
    obtain rfl : j = l.length := by omega
    rw [List.take_length] at ho
    refine ⟨(), trivial, by rw [← ho, hol], ?_⟩
    rw [← ho, hol]
    rw [List.map_append, Nat.mul_one, List.take_append_of_le_length (by rw [List.length_map]; omega), List.take_of_length_le (by rw [List.length_map]; omega)] at s
    have s2 := Sat.slShrink kk s (by rw [List.length_map]; omega) (by omega)
    exact s2.toCs (by repeat (first | exact SelL.nil | exact SelL.self | apply SelL.cons | exact Sel.here | apply Sel.there | apply SelL.skip))
set_option maxRecDepth 20000 in
set_option maxHeartbeats 1000000 in
theorem moving1_spec (x : Int) :
  Triple Tryz.prog 45 #[.int .i64 x] [] (Unit) (fun _ => True) (fun _ => .bool (!decide (1 ≤ x ∧ x ≤ 1073741824))) (fun _ => []) := by
 refine Triple.of_body (args := [.int .i64 x]) Tryz.func45 rfl Tryz.ntmps45 (by simp) (fun g F => ?_)
 dsimp only [numb, List.cons_append, List.nil_append]
 refine WK.seq ?_
 refine WK.region ?_
 refine Ly y_assign ?_
 refine WL.done ?_
 refine WK.seq ?_
 refine WK.region ?_
 refine Ly y_move ?_
 refine Le (e_call (by exact Tryz.call34) (t := account_spec x)) ?_
 rintro _ -
 try dsimp only
 refine Ly y_not ?_
 refine Ly y_assign ?_
 refine WL.done ?_
 refine WK.ret ?_
 repeat (first | refine RQ.block ?_ | refine RQ.then_ ?_)
 refine RQ.body (results1 (by rfl) (by rfl)) (fun w s => ?_)
 exact ⟨(), trivial, rfl, s⟩
/-- An account that need not move. -/
noncomputable def stayM (m1 m2 : List HomeM) (a : Int) : Bool := if 1 ≤ a ∧ a ≤ 1073741824 then decide (findM m1 a = findM m2 a) else true
theorem moving1_pred : PredF Tryz.prog 45 [] (pack []) (Value.int .i64) (fun _ => True) (fun x => !decide (1 ≤ x ∧ x ≤ 1073741824)) := ⟨Tryz.call45, fun x _ => (moving1_spec x).withX [pack []]⟩
set_option maxRecDepth 20000 in
set_option maxHeartbeats 2000000 in
theorem moving2_spec (q1 q2 : Nat) (p1 p2 : Bool) (ad1 ad2 : Option Addr) (len1 len2 cap1 cap2 : Nat) (m1 m2 : List HomeM) (hl1 : len1 ≤ 100000) (hl2 : len2 ≤ 100000) (hv1 : VH 12 m1) (hv2 : VH 12 m2) (a : Int) :
  Triple Tryz.prog 50 #[.int .i64 a, .pointer (some ⟨q1, 0, none⟩), .pointer (some ⟨q2, 0, none⟩)] [row true q1 30 [.slice ad1 len1 cap1], row true q2 30 [.slice ad2 len2 cap2], sl p1 84 2 ad1 len1 cap1 (homesC m1), sl p2 84 2 ad2 len2 cap2 (homesC m2)] (Unit) (fun _ => True) (fun _ => .bool (stayM m1 m2 a)) (fun _ => [row true q1 30 [.slice ad1 len1 cap1], row true q2 30 [.slice ad2 len2 cap2], sl p1 84 2 ad1 len1 cap1 (homesC m1), sl p2 84 2 ad2 len2 cap2 (homesC m2)]) := by
 refine Triple.of_body (args := [.int .i64 a, .pointer (some ⟨q1, 0, none⟩), .pointer (some ⟨q2, 0, none⟩)]) Tryz.func50 rfl Tryz.ntmps50 (by simp) (fun g F => ?_)
 dsimp only [numb, List.cons_append, List.nil_append]
 refine WK.seq ?_
 refine WK.region ?_
 refine Ly y_assign ?_
 refine WL.done ?_
 refine WK.seq ?_
 by_cases ha : 1 ≤ a ∧ a ≤ 1073741824
 ·
  refine WK.region ?_
  refine Ly (y_load (ha := by exact Tryz.isAgg30)) ?_
  refine Ly y_move ?_
  refine Le (e_call (by exact Tryz.call15) (t := find_spec p1 ad1 len1 cap1 m1 (by omega) a)) ?_
  rintro _ -
  rw [if_pos ⟨hv1, ha⟩]
  try dsimp only
  refine Ly y_move ?_
  refine Ly y_extract ?_
  refine Ly y_extract ?_
  refine Ly y_assign ?_
  refine Ly y_assign ?_
  refine WL.done ?_
  refine WK.seq ?_
  refine WK.region ?_
  refine Ly (y_load (ha := by exact Tryz.isAgg30)) ?_
  refine Ly y_move ?_
  refine Le (e_call (by exact Tryz.call15) (t := find_spec p2 ad2 len2 cap2 m2 (by omega) a)) ?_
  rintro _ -
  rw [if_pos ⟨hv2, ha⟩]
  try dsimp only
  refine Ly y_move ?_
  refine Ly y_extract ?_
  refine Ly y_extract ?_
  refine Ly y_assign ?_
  refine Ly y_assign ?_
  refine WL.done ?_
  refine WK.seq ?_
  refine WK.region ?_
  refine Ly y_move ?_
  refine Ly y_move ?_
  refine Ly y_eql ?_
  refine Ly y_assign ?_
  refine WL.done ?_
  refine WK.ret ?_
  repeat (first | refine RQ.block ?_ | refine RQ.then_ ?_)
  refine RQ.body (results1 (by rfl) (by rfl)) (fun w s => ?_)
  refine ⟨(), trivial, ?_, s.toCs (by repeat (first | exact SelL.nil | exact SelL.self | apply SelL.cons | exact Sel.here | apply Sel.there | apply SelL.skip))⟩
  rw [stayM, if_pos ha]
 ·
  refine WK.region ?_
  refine Ly (y_load (ha := by exact Tryz.isAgg30)) ?_
  refine Ly y_move ?_
  refine Le (e_call (by exact Tryz.call15) (t := find_spec p1 ad1 len1 cap1 m1 (by omega) a)) ?_
  rintro _ -
  rw [if_neg (fun h => ha h.2)]
  try dsimp only
  refine Ly y_move ?_
  refine Ly y_extract ?_
  refine Ly y_extract ?_
  refine Ly y_assign ?_
  refine Ly y_assign ?_
  refine WL.done ?_
  refine WK.seq ?_
  refine WK.region ?_
  refine Ly (y_load (ha := by exact Tryz.isAgg30)) ?_
  refine Ly y_move ?_
  refine Le (e_call (by exact Tryz.call15) (t := find_spec p2 ad2 len2 cap2 m2 (by omega) a)) ?_
  rintro _ -
  rw [if_neg (fun h => ha h.2)]
  try dsimp only
  refine Ly y_move ?_
  refine Ly y_extract ?_
  refine Ly y_extract ?_
  refine Ly y_assign ?_
  refine Ly y_assign ?_
  refine WL.done ?_
  refine WK.seq ?_
  refine WK.region ?_
  refine Ly y_move ?_
  refine Ly y_move ?_
  refine Ly y_eql ?_
  refine Ly y_assign ?_
  refine WL.done ?_
  refine WK.ret ?_
  repeat (first | refine RQ.block ?_ | refine RQ.then_ ?_)
  refine RQ.body (results1 (by rfl) (by rfl)) (fun w s => ?_)
  refine ⟨(), trivial, ?_, s.toCs (by repeat (first | exact SelL.nil | exact SelL.self | apply SelL.cons | exact Sel.here | apply Sel.there | apply SelL.skip))⟩
  rw [stayM, if_neg ha]
  rw [decide_eq_true rfl]
theorem moving2_pred (q1 q2 : Nat) (p1 p2 : Bool) (ad1 ad2 : Option Addr) (len1 len2 cap1 cap2 : Nat) (m1 m2 : List HomeM) (hl1 : len1 ≤ 100000) (hl2 : len2 ≤ 100000) (hv1 : VH 12 m1) (hv2 : VH 12 m2) : PredF Tryz.prog 50 [.pointer (some ⟨q1, 0, none⟩), .pointer (some ⟨q2, 0, none⟩)] (pack [row true q1 30 [.slice ad1 len1 cap1], row true q2 30 [.slice ad2 len2 cap2], sl p1 84 2 ad1 len1 cap1 (homesC m1), sl p2 84 2 ad2 len2 cap2 (homesC m2)]) (Value.int .i64) (fun _ => True) (stayM m1 m2) :=
  ⟨Tryz.call50, fun x _ => Triple.packX (moving2_spec q1 q2 p1 p2 ad1 ad2 len1 len2 cap1 cap2 m1 m2 hl1 hl2 hv1 hv2 x)⟩
/-- slices.Sort sorts up to N numbers. -/
def SortI (N : Nat) : Prop := ∀ (ad : Option Addr) (len cap : Nat) (l : List Int), len ≤ N → Triple Tryz.prog 47 #[.slice ad len cap] [sl true 3 1 ad len cap (l.map (Value.int .i64))] (List Int) (fun l2 => l2.Perm l ∧ Asc l2) (fun _ => .tuple #[]) (fun l2 => [sl true 3 1 ad len cap (l2.map (Value.int .i64))])
theorem sortI12 : SortI 12 := fun ad len cap l h => sort12_int ad len cap l h
def MovingOK (m1 m2 : List HomeM) (l : List Int) : Prop := VH 12 m1 ∧ VH 12 m2 ∧ ∀ a ∈ l, 1 ≤ a ∧ a ≤ 1073741824
/-- The accounts of l that move. -/
structure MovesM (m1 m2 : List HomeM) (l l2 : List Int) : Prop where
  inc : IncI l2
  mem : ∀ a, a ∈ l2 ↔ a ∈ l ∧ findM m1 a ≠ findM m2 a
theorem MovesM.mk' {m1 m2 : List HomeM} {l ls lc : List Int} (hok : ∀ a ∈ l, 1 ≤ a ∧ a ≤ 1073741824) (hp : ls.Perm l) (hc : Cpt ls lc) : MovesM m1 m2 l (keepM (stayM m1 m2) lc) := by
  refine ⟨List.Pairwise.sublist List.filter_sublist hc.inc, fun a => ?_⟩
  rw [keepM, List.mem_filter, hc.mem, hp.mem_iff]
  constructor
  · rintro ⟨h1, h2⟩
    refine ⟨h1, ?_⟩
    rw [stayM, if_pos (hok a h1)] at h2
    simpa using h2
  · rintro ⟨h1, h2⟩
    refine ⟨h1, ?_⟩
    rw [stayM, if_pos (hok a h1)]
    simpa using h2
set_option maxRecDepth 20000 in
set_option maxHeartbeats 4000000 in
theorem moving_spec (N : Nat) (hsort : SortI N) (p1 p2 : Bool) (ad1 ad2 : Option Addr) (len1 len2 cap1 cap2 : Nat) (m1 m2 : List HomeM) (hl1 : len1 ≤ 100000) (hl2 : len2 ≤ 100000) (p3 : Bool) (ad3 : Option Addr) (len3 cap3 : Nat) (acc : List Int) (hN : len3 ≤ N) (hN2 : N ≤ 100000) :
  Triple Tryz.prog 24 #[.slice ad1 len1 cap1, .slice ad2 len2 cap2, .slice ad3 len3 cap3] [sl p1 84 2 ad1 len1 cap1 (homesC m1), sl p2 84 2 ad2 len2 cap2 (homesC m2), sl p3 3 1 ad3 len3 cap3 (acc.map (Value.int .i64))] (Option (List Int × Option Addr × Nat)) (fun x => match x with | none => ¬ MovingOK m1 m2 acc | some y => MovingOK m1 m2 acc ∧ MovesM m1 m2 acc y.1) (fun x => match x with | none => .tuple #[.slice none 0 0, .int .i64 1] | some y => .tuple #[.slice y.2.1 y.1.length y.2.2, .int .i64 0]) (fun x => match x with | none => [sl p1 84 2 ad1 len1 cap1 (homesC m1), sl p2 84 2 ad2 len2 cap2 (homesC m2), sl p3 3 1 ad3 len3 cap3 (acc.map (Value.int .i64))] | some y => [sl true 3 1 y.2.1 y.1.length y.2.2 (y.1.map (Value.int .i64)), sl p1 84 2 ad1 len1 cap1 (homesC m1), sl p2 84 2 ad2 len2 cap2 (homesC m2), sl p3 3 1 ad3 len3 cap3 (acc.map (Value.int .i64))]) := by
 refine Triple.of_body (args := [.slice ad1 len1 cap1, .slice ad2 len2 cap2, .slice ad3 len3 cap3]) Tryz.func24 rfl Tryz.ntmps24 (by simp) (fun g F => ?_)
 dsimp only [numb, List.cons_append, List.nil_append]
 refine WK.know (fun w s => Sat.slLen (s.sel1 (A := sl p3 3 1 ad3 len3 cap3 (acc.map (Value.int .i64))) (by repeat (first | exact .here | apply Sel.there)))) (fun hkn => ?_)
 obtain ⟨n3, -⟩ := hkn
 simp only [Nat.mul_one, List.length_map] at n3
 refine WK.seq ?_
 refine WK.region ?_
 refine Le e_box ?_
 rintro b3 -
 try dsimp only
 refine Le e_box ?_
 rintro b4 -
 try dsimp only
 refine Ly y_assign ?_
 refine Ly y_assign ?_
 refine WL.done ?_
 refine WK.seq ?_
 refine WK.seq ?_
 refine WK.region ?_
 refine Ly (y_load (ha := by exact Tryz.isAgg30)) ?_
 refine Le (e_call (by exact Tryz.call35) (t := possible_spec p1 ad1 len1 cap1 m1 (by omega))) ?_
 rintro _ -
 try dsimp only
 refine Ly y_not ?_
 refine Ly y_move ?_
 refine WL.split (d := 12) (by rfl) (fun hc12 => ?_) (fun hc12 => ?_)
 ·
  refine Lz ?_
  refine Lz ?_
  refine Lz ?_
  refine Ly y_pick_true ?_
  refine Ly y_move ?_
  refine Lz ?_
  refine WL.sat (fun w s => Sat.pack (l := []) s) ?_
  refine Lz ?_
  refine Ly y_pick_true ?_
  refine WL.done ?_
  refine Kcond (ht := fun _ => ?_) (hf := fun h => by cases h)
  refine WK.seq ?_
  refine WK.region ?_
  refine Ly y_assign ?_
  refine Ly y_assign ?_
  refine WL.done ?_
  refine WK.ret ?_
  repeat (first | refine RQ.block ?_ | refine RQ.then_ ?_)
  refine RQ.body (results2 (by rfl) (by rfl) (by rfl)) (fun w s => ?_)
  refine ⟨none, ?_, rfl, s.toCs (by repeat (first | exact SelL.nil | exact SelL.self | apply SelL.cons | exact Sel.here | apply Sel.there | apply SelL.skip))⟩
  intro hok
  simp at hc12
  exact hc12 hok.1
 ·
  have hv1 : VH 12 m1 := by simpa using hc12
  refine Lyg (y_load (ha := by exact Tryz.isAgg30)) ?_
  refine Leg (e_call (by exact Tryz.call35) (t := possible_spec p2 ad2 len2 cap2 m2 (by omega))) ?_
  rintro _ -
  try dsimp only
  refine Lyg y_not ?_
  refine Ly y_pick_false ?_
  refine Ly y_move ?_
  refine WL.split (d := 17) (by rfl) (fun hc17 => ?_) (fun hc17 => ?_)
  ·
   refine Lz ?_
   refine WL.sat (fun w s => Sat.pack (l := []) s) ?_
   refine Lz ?_
   refine Ly y_pick_true ?_
   refine WL.done ?_
   refine Kcond (ht := fun _ => ?_) (hf := fun h => by cases h)
   refine WK.seq ?_
   refine WK.region ?_
   refine Ly y_assign ?_
   refine Ly y_assign ?_
   refine WL.done ?_
   refine WK.ret ?_
   repeat (first | refine RQ.block ?_ | refine RQ.then_ ?_)
   refine RQ.body (results2 (by rfl) (by rfl) (by rfl)) (fun w s => ?_)
   refine ⟨none, ?_, rfl, s.toCs (by repeat (first | exact SelL.nil | exact SelL.self | apply SelL.cons | exact Sel.here | apply Sel.there | apply SelL.skip))⟩
   intro hok
   simp at hc17
   exact hc17 hok.2.1
  ·
   have hv2 : VH 12 m2 := by simpa using hc17
   refine Lyg y_move ?_
   refine WL.sat (fun w s => Sat.pack (l := []) s) ?_
   refine Leg (e_call (by exact Tryz.call44) (t := containsFunc_int _ [] (pack []) _ moving1_pred p3 ad3 len3 cap3 acc (by omega))) ?_
   rintro _ -
   try dsimp only
   refine Ly y_pick_false ?_
   refine WL.done ?_
   refine Kcond (ht := fun hc20 => ?_) (hf := fun hc20 => ?_)
   ·
    refine WK.seq ?_
    refine WK.region ?_
    refine Ly y_assign ?_
    refine Ly y_assign ?_
    refine WL.done ?_
    refine WK.ret ?_
    repeat (first | refine RQ.block ?_ | refine RQ.then_ ?_)
    refine RQ.body (results2 (by rfl) (by rfl) (by rfl)) (fun w s => ?_)
    refine ⟨none, ?_, rfl, s.toCs (by repeat (first | exact SelL.nil | exact SelL.self | apply SelL.cons | exact Sel.here | apply Sel.there | apply SelL.skip))⟩
    intro hok
    obtain ⟨y, hy, hy2⟩ := List.any_eq_true.1 hc20
    have := hok.2.2 y hy
    simp at hy2
    omega
   ·
    have hacc : ∀ a ∈ acc, 1 ≤ a ∧ a ≤ 1073741824 := fun a ha => by
      have := List.any_eq_false.1 hc20 a ha
      simpa using this
    refine WK.skip ?_
    refine WK.seq ?_
    refine WK.region ?_
    refine Ly y_move ?_
    refine Le (e_call (by exact Tryz.call46) (t := clone_int p3 ad3 len3 cap3 acc (by omega))) ?_
    rintro ⟨ad22, cap22⟩ -
    try dsimp only
    refine Ly y_assign ?_
    refine WL.done ?_
    refine WK.seq ?_
    refine WK.region ?_
    refine Ly y_move ?_
    refine Le (e_call (by exact Tryz.call47) (t := hsort ad22 len3 cap22 acc hN)) ?_
    rintro ls hls
    try dsimp only
    refine WL.done ?_
    refine WK.seq ?_
    refine WK.region ?_
    refine Ly y_move ?_
    refine Le (e_call (by exact Tryz.call49) (t := compact_spec ad22 len3 cap22 ls (by omega) hls.2)) ?_
    rintro lc hlc
    refine WL.sat (fun w s => Sat.pack (l := [row true b3 30 [.slice ad1 len1 cap1], row true b4 30 [.slice ad2 len2 cap2], sl p1 84 2 ad1 len1 cap1 (homesC m1), sl p2 84 2 ad2 len2 cap2 (homesC m2)]) (s.sel (by repeat (first | exact SelL.nil | exact SelL.self | apply SelL.cons | exact Sel.here | apply Sel.there | apply SelL.skip)))) ?_
    refine WL.know (fun w s => Sat.slLen (s.sel1 (A := sl true 3 1 ad22 lc.length cap22 (lc.map (Value.int .i64))) (by repeat (first | exact .here | apply Sel.there)))) (fun hkn => ?_)
    have hcap22 := hkn.2.1
    try dsimp only
    refine Ly y_mkFunc ?_
    refine Le (e_call (by exact Tryz.call48) (t := (deleteFunc_spec _ _ (pack [row true b3 30 [.slice ad1 len1 cap1], row true b4 30 [.slice ad2 len2 cap2], sl p1 84 2 ad1 len1 cap1 (homesC m1), sl p2 84 2 ad2 len2 cap2 (homesC m2)]) (stayM m1 m2) (moving2_pred b3 b4 p1 p2 ad1 ad2 len1 len2 cap1 cap2 m1 m2 hl1 hl2 hv1 hv2) ad22 lc.length cap22 lc (by have h1 := hlc.len; have h2 := hls.1.length_eq; omega)))) ?_
    rintro _ -
    try dsimp only
    refine Ly y_assign ?_
    refine Ly y_assign ?_
    refine WL.done ?_
    refine WK.ret ?_
    repeat (first | refine RQ.block ?_ | refine RQ.then_ ?_)
    refine RQ.body (results2 (by rfl) (by rfl) (by rfl)) (fun w s => ?_)
    have s1 := Sat.unpack (s.sel1 (A := (pack [row true b3 30 [.slice ad1 len1 cap1], row true b4 30 [.slice ad2 len2 cap2], sl p1 84 2 ad1 len1 cap1 (homesC m1), sl p2 84 2 ad2 len2 cap2 (homesC m2)])) (by repeat (first | exact .here | apply Sel.there)))
    simp only [List.cons_append, List.nil_append] at s1
    exact ⟨some (keepM (stayM m1 m2) lc, ad22, cap22), ⟨⟨hv1, hv2, hacc⟩, MovesM.mk' hacc hls.1 hlc⟩, rfl, s1.toCs (by repeat (first | exact SelL.nil | exact SelL.self | apply SelL.cons | exact Sel.here | apply Sel.there | apply SelL.skip))⟩
end Go.Proofs.YtkakfmcjiabjjaaGreatDoor
