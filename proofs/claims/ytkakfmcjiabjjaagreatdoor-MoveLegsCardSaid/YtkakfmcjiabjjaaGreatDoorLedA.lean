import Derived.Test.YtkakfmcjiabjjaaGreatDoorCatA
namespace Go.Proofs.YtkakfmcjiabjjaaGreatDoor
set_option linter.unusedVariables false
set_option linter.unusedSimpArgs false
set_option linter.unusedSectionVars false
set_option linter.unnecessarySimpa false
open Go Go.Sep
attribute [local irreducible] row sl mapO held exL allR byt mapI slr mapK rangeK vec pack
structure MoveM where
  frm : Int
  to : Int
  item : Int
  n : Int
def moveC (m : MoveM) : List Value := [.int .i64 m.frm, .int .i64 m.to, .int .i64 m.item, .int .i64 m.n, .slice none 0 0]
theorem moveC_len : ∀ x, (moveC x).length = 5 := fun _ => rfl
/-- A move that spawns n units of an item for an account. -/
def spawnM (a it n : Int) : MoveM := ⟨0, a, it, n⟩
def okSpawn (a it n : Int) : Prop := 1 ≤ a ∧ a ≤ 1073741824 ∧ 0 ≤ it ∧ it < 4 ∧ 1 ≤ n ∧ n ≤ 1099511627776
/-- The steps that a ledger has are spawns at tick 0. -/
def Ticks (ns : Nat) (xs : List Value) : Prop := xs.length = ns * 7 ∧ ∀ i, i < ns → xs[i * 7 + 3]? = some (.int .i64 0)
def formC : List Value := [.func (.func 155) #[] #[], .func (.func 156) #[] #[], .bool false, .func (.func 156) #[] #[], .func (.func 155) #[] #[], .bool false, .func (.func 156) #[] #[], .func (.func 156) #[] #[], .bool false, .func (.func 156) #[] #[], .func (.func 156) #[] #[], .bool false, .nilFunc, .nilFunc, .bool false, .func (.func 155) #[] #[], .func (.func 156) #[] #[], .bool true, .func (.func 156) #[] #[], .func (.func 155) #[] #[], .bool false, .func (.func 156) #[] #[], .func (.func 157) #[] #[], .bool true, .func (.func 156) #[] #[], .func (.func 156) #[] #[], .bool false, .func (.func 157) #[] #[], .func (.func 156) #[] #[], .bool true]
def formZ : List Value := [.nilFunc, .nilFunc, .bool false, .nilFunc, .nilFunc, .bool false, .nilFunc, .nilFunc, .bool false, .nilFunc, .nilFunc, .bool false, .nilFunc, .nilFunc, .bool false, .nilFunc, .nilFunc, .bool false, .nilFunc, .nilFunc, .bool false, .nilFunc, .nilFunc, .bool false, .nilFunc, .nilFunc, .bool false, .nilFunc, .nilFunc, .bool false]
theorem elem60 : ElemT Tryz.prog 60 59 5 56 := ⟨Tryz.underlying60, ⟨Tryz.t59, _, by kernel_rfl, rfl, rfl, rfl, rfl⟩⟩
theorem places59 (w : World) : ∀ {fs : Array Field}, Tryz.prog.underlying 59 = some (.struct fs) → Sem.run Tryz.prog (fs.mapM fun f => Prod.mk f.offset <$> sizeOf f.type) w = .ok #[(0, 1), (1, 1), (2, 1), (3, 1), (4, 1)] w := by
  intro fs h
  rw [Tryz.underlying59] at h
  cases h
  simp
theorem places62 (w : World) : ∀ {fs : Array Field}, Tryz.prog.underlying 62 = some (.struct fs) → Sem.run Tryz.prog (fs.mapM fun f => Prod.mk f.offset <$> sizeOf f.type) w = .ok #[(0, 1), (1, 1), (2, 1), (3, 1), (4, 1), (5, 1), (6, 1)] w := by
  intro fs h
  rw [Tryz.underlying62] at h
  cases h
  simp
theorem places218 (w : World) : ∀ {fs : Array Field}, Tryz.prog.underlying 218 = some (.struct fs) → Sem.run Tryz.prog (fs.mapM fun f => Prod.mk f.offset <$> sizeOf f.type) w = .ok #[(0, 1), (1, 1), (2, 1)] w := by
  intro fs h
  rw [Tryz.underlying218] at h
  cases h
  simp
set_option maxRecDepth 20000 in
set_option maxHeartbeats 1000000 in
theorem now_spec (pl : Bool) (q : Nat) (sh : Int) (nf ns : Nat) (W : LedW) (ps : Bool) (xs : List Value) (hx : Ticks ns xs) (hns : ns ≤ 60000) :
  Triple Tryz.prog 94 #[.pointer (some ⟨q, 0, none⟩)] [row pl q 120 (ledRow sh nf ns W), sl ps 62 7 W.sa ns W.sc xs] (Unit) (fun _ => True) (fun _ => .int .i64 0) (fun _ => [row pl q 120 (ledRow sh nf ns W), sl ps 62 7 W.sa ns W.sc xs]) := by
 refine Triple.of_body (args := [.pointer (some ⟨q, 0, none⟩)]) Tryz.func94 rfl Tryz.ntmps94 (by simp) (fun g F => ?_)
 dsimp only [numb, List.cons_append, List.nil_append]
 obtain ⟨hxl, hxt⟩ := hx
 refine WK.seq ?_
 refine WK.region ?_
 refine Ly y_assign ?_
 refine WL.done ?_
 refine WK.seq ?_
 refine WK.seq ?_
 refine WK.region ?_
 refine Ly y_move ?_
 refine Ly y_nilCheck ?_
 refine Ly (y_fieldAddr (hu := by exact Tryz.runUnderlying120) (hs := by exact Tryz.sizeOf108)) ?_
 refine Ly (y_load (ha := by exact Tryz.isAgg108)) ?_
 refine Ly (y_len (hu := by exact Tryz.runUnderlying108)) ?_
 refine Ly y_assign ?_
 refine WL.done ?_
 refine WK.seq ?_
 refine WK.region ?_
 refine Ly y_move ?_
 refine Ly y_gtr ?_
 refine WL.done ?_
 refine Kcond (ht := fun hc10 => ?_) (hf := fun hc10 => ?_)
 ·
  have hc10 := of_decide_eq_true hc10
  refine WK.seq ?_
  refine WK.region ?_
  refine Ly y_move ?_
  refine Ly y_nilCheck ?_
  refine Ly (y_fieldAddr (hu := by exact Tryz.runUnderlying120) (hs := by exact Tryz.sizeOf108)) ?_
  refine Ly (y_load (ha := by exact Tryz.isAgg108)) ?_
  refine Ly y_move ?_
  refine Ly y_sub ?_
  refine Ly (y_indexAddrS (hu := by exact Tryz.runUnderlying108) (hz := by exact Tryz.sizeOf62) (j := ns - 1) (hi := by first | rfl | omega) (hj' := by omega) (hj := by omega)) ?_
  refine Ly (y_fieldAddrS (hu := by exact Tryz.runUnderlying62) (hs := by exact Tryz.sizeOf3)) ?_
  refine Ly (y_loadS (ha := by exact Tryz.isAgg3) (hv := by exact hxt (ns - 1) (by omega))) ?_
  refine Ly y_assign ?_
  refine WL.done ?_
  refine WK.ret ?_
  repeat (first | refine RQ.block ?_ | refine RQ.then_ ?_)
  refine RQ.body (results1 (by rfl) (by rfl)) (fun w s => ?_)
  exact ⟨(), trivial, rfl, s.toCs (by repeat (first | exact SelL.nil | exact SelL.self | apply SelL.cons | exact Sel.here | apply Sel.there | apply SelL.skip))⟩
 ·
  have hc10 := of_decide_eq_false hc10
  refine WK.skip ?_
  refine WK.seq ?_
  refine WK.region ?_
  refine Ly y_assign ?_
  refine WL.done ?_
  refine WK.ret ?_
  repeat (first | refine RQ.block ?_ | refine RQ.then_ ?_)
  refine RQ.body (results1 (by rfl) (by rfl)) (fun w s => ?_)
  exact ⟨(), trivial, rfl, s.toCs (by repeat (first | exact SelL.nil | exact SelL.self | apply SelL.cons | exact Sel.here | apply Sel.there | apply SelL.skip))⟩
set_option maxRecDepth 20000 in
set_option maxHeartbeats 2000000 in
theorem moveL_spec (pl : Bool) (q : Nat) (sh : Int) (nf ns : Nat) (W : LedW) (m : MoveM) (h1 : 0 ≤ m.frm ∧ m.frm ≤ 1073741824) (h2 : 0 ≤ m.to ∧ m.to ≤ 1073741824) (h3 : 0 ≤ m.item ∧ m.item < 4) (h4 : 1 ≤ m.n ∧ m.n ≤ 1099511627776) (h5 : m.frm ≠ m.to) :
  Triple Tryz.prog 129 #[.pointer (some ⟨q, 0, none⟩), .agg #[.int .i64 m.frm, .int .i64 m.to, .int .i64 m.item, .int .i64 m.n, .slice none 0 0], .bool false] [row pl q 120 (ledRow sh nf ns W)] (Unit) (fun _ => True) (fun _ => .bool true) (fun _ => [row pl q 120 (ledRow sh nf ns W)]) := by
 refine Triple.of_body (args := [.pointer (some ⟨q, 0, none⟩), .agg #[.int .i64 m.frm, .int .i64 m.to, .int .i64 m.item, .int .i64 m.n, .slice none 0 0], .bool false]) Tryz.func129 rfl Tryz.ntmps129 (by simp) (fun g F => ?_)
 dsimp only [numb, List.cons_append, List.nil_append]
 refine WK.seq ?_
 refine WK.region ?_
 refine Le e_box ?_
 rintro b4 -
 try dsimp only
 refine Ly y_assign ?_
 refine WL.done ?_
 refine WK.seq ?_
 refine KdrQ (l := [(0, 0), (1, 0), (2, 0), (3, 0), (4, 0), (5, 0), (6, 0), (7, 0), (8, 0), (9, 0), (10, 0), (11, 0), (12, 0), (13, 0), (14, 0), (15, 0), (16, 0), (17, 0), (18, 0), (19, 0), (20, 0), (21, 0), (22, 0), (23, 0), (24, 0), (25, 0), (26, 0), (27, 0), (28, 0), (29, 0), (30, 0), (31, 0)]) (h := ?_)
 refine Oy (y := y_fieldAddr (hu := by exact Tryz.runUnderlying59) (hs := by exact Tryz.sizeOf3)) (h := ?_)
 refine Oy (y := y_load (ha := by exact Tryz.isAgg3)) (h := ?_)
 refine Oy (y := y_geq) (h := ?_)
 refine Oy (y := y_move) (h := ?_)
 refine WO.split (d := 13) (by rfl) (fun hc13 => ?_) (fun hc13 => ?_)
 ·
  have hc13 := of_decide_eq_true hc13
  refine Oyg (y := y_fieldAddr (hu := by exact Tryz.runUnderlying59) (hs := by exact Tryz.sizeOf3)) (h := ?_)
  refine Oyg (y := y_load (ha := by exact Tryz.isAgg3)) (h := ?_)
  refine Oyg (y := y_move) (h := ?_)
  refine Oyg (y := y_nilCheck) (h := ?_)
  refine Oyg (y := y_fieldAddr (hu := by exact Tryz.runUnderlying120) (hs := by exact Tryz.sizeOf97)) (h := ?_)
  refine Oyg (y := y_fieldAddr (hu := by exact Tryz.runUnderlying97) (hs := by exact Tryz.sizeOf92)) (h := ?_)
  refine Oyg (y := y_load (ha := by exact Tryz.isAgg92)) (h := ?_)
  refine Oyg (y := y_len (hu := by exact Tryz.runUnderlying92)) (h := ?_)
  refine Oyg (y := y_lss) (h := ?_)
  refine Oy (y := y_pick_true) (h := ?_)
  refine Oy (y := y_move) (h := ?_)
  refine WO.split (d := 24) (by rfl) (fun hc24 => ?_) (fun hc24 => ?_)
  ·
   have hc24 := of_decide_eq_true hc24
   refine Oyg (y := y_fieldAddr (hu := by exact Tryz.runUnderlying59) (hs := by exact Tryz.sizeOf3)) (h := ?_)
   refine Oyg (y := y_load (ha := by exact Tryz.isAgg3)) (h := ?_)
   refine Oyg (y := y_geq) (h := ?_)
   refine Oy (y := y_pick_true) (h := ?_)
   refine Oy (y := y_move) (h := ?_)
   refine WO.split (d := 29) (by rfl) (fun hc29 => ?_) (fun hc29 => ?_)
   ·
    have hc29 := of_decide_eq_true hc29
    refine Oyg (y := y_fieldAddr (hu := by exact Tryz.runUnderlying59) (hs := by exact Tryz.sizeOf3)) (h := ?_)
    refine Oyg (y := y_load (ha := by exact Tryz.isAgg3)) (h := ?_)
    refine Oyg (y := y_leq) (h := ?_)
    refine Oy (y := y_pick_true) (h := ?_)
    refine Oy (y := y_move) (h := ?_)
    refine WO.split (d := 34) (by rfl) (fun hc34 => ?_) (fun hc34 => ?_)
    ·
     have hc34 := of_decide_eq_true hc34
     refine Oyg (y := y_fieldAddr (hu := by exact Tryz.runUnderlying59) (hs := by exact Tryz.sizeOf3)) (h := ?_)
     refine Oyg (y := y_load (ha := by exact Tryz.isAgg3)) (h := ?_)
     refine Oyg (y := y_fieldAddr (hu := by exact Tryz.runUnderlying59) (hs := by exact Tryz.sizeOf3)) (h := ?_)
     refine Oyg (y := y_load (ha := by exact Tryz.isAgg3)) (h := ?_)
     refine Oyg (y := y_neq) (h := ?_)
     rw [decide_eq_true h5]
     refine Oy (y := y_pick_true) (h := ?_)
     refine Oy (y := y_assign) (h := ?_)
     refine WO.done ?_
     refine WK.seq ?_
     refine WK.seq ?_
     refine WK.region ?_
     refine Ly (y_fieldAddr (hu := by exact Tryz.runUnderlying59) (hs := by exact Tryz.sizeOf3)) ?_
     refine Ly (y_load (ha := by exact Tryz.isAgg3)) ?_
     refine Ly (y_fieldAddr (hu := by exact Tryz.runUnderlying59) (hs := by exact Tryz.sizeOf3)) ?_
     refine Ly (y_load (ha := by exact Tryz.isAgg3)) ?_
     refine Le (e_mkSliceN (by exact Tryz.runUnderlying22) (by exact Tryz.sizeOf3) (by exact Tryz.zeroValue3) (hb := by decide) (hk0 := by rfl) (hl0 := by rfl) (h1 := by rfl)) ?_
     rintro b45 -
     try dsimp only [List.cons_append, List.nil_append]
     try dsimp only
     refine Ly (y_len (hu := by exact Tryz.runUnderlying22)) ?_
     refine Ly y_move ?_
     refine WL.done ?_
     refine WK.block ?_
     refine Kloop (ι := Nat) (fun i => i ≤ 2) (fun i => [(0, .pointer (some ⟨q, 0, none⟩)), (2, .bool false), (4, .pointer (some ⟨b4, 0, none⟩)), (7, .bool true), (45, .slice (some ⟨b45, 0, none⟩) 2 2), (46, .int .i64 2), (47, .int .i64 (i : Int))]) (fun _ => sl true 3 1 (some ⟨b45, 0, none⟩) 2 2 [.int .i64 m.frm, .int .i64 m.to] :: row true b4 59 [.int .i64 m.frm, .int .i64 m.to, .int .i64 m.item, .int .i64 m.n, .slice none 0 0] :: row pl q 120 (ledRow sh nf ns W) :: F) (fun i => 2 - i) (0) (by decide) (round := ?_)
     rintro i hi N hN
     refine WK.seq ?_
     refine WK.region ?_
     refine Ly y_lss ?_
     refine WL.done ?_
     refine WK.seq ?_
     refine Kcond (ht := fun hc48 => ?_) (hf := fun hc48 => ?_)
     ·
      have hc48 := of_decide_eq_true hc48
      obtain ⟨v, hv, hv2⟩ : ∃ v : Int, [Value.int .i64 m.frm, Value.int .i64 m.to][i]? = some (.int .i64 v) ∧ 0 ≤ v ∧ v ≤ 1073741824 := by
        obtain rfl | rfl : i = 0 ∨ i = 1 := by omega
        · exact ⟨m.frm, rfl, h1⟩
        · exact ⟨m.to, rfl, h2⟩
      refine WK.skip ?_
      refine WK.seq ?_
      refine WK.block ?_
      refine WK.seq ?_
      refine WK.region ?_
      refine Ly (y_indexAddrS (hu := by exact Tryz.runUnderlying22) (hz := by exact Tryz.sizeOf3) (j := i) (hi := by first | rfl | omega) (hj' := by omega) (hj := by omega) (hr := by exact Nat.mul_one _)) ?_
      refine Ly (y_loadS (ha := by exact Tryz.isAgg3) (hv := by exact hv)) ?_
      refine Ly y_assign ?_
      refine WL.done ?_
      refine WK.region ?_
      refine Ly y_move ?_
      refine Ly y_move ?_
      refine Lyg y_move ?_
      refine Lyg y_geq ?_
      refine Ly y_pick_true ?_
      refine Ly y_move ?_
      refine WL.split (d := 56) (by rfl) (fun hc56 => ?_) (fun hc56 => ?_)
      ·
       have hc56 := of_decide_eq_true hc56
       refine Lyg y_move ?_
       refine Lyg y_leq ?_
       rw [decide_eq_true hv2.2]
       refine Ly y_pick_true ?_
       refine Ly y_assign ?_
       refine WL.done ?_
       refine WK.endBlock ?_
       refine WK.region ?_
       refine Ly y_add ?_
       refine Ly y_move ?_
       refine WL.done ?_
       exact Knext hN (i + 1) (by omega) (by omega)
      ·
       have hc56 := of_decide_eq_false hc56
       exfalso
       first | omega | (simp at hc56; done) | (simp at hc56; omega) | (simp_all; done) | (simp_all; omega)
     ·
      have hc48 := of_decide_eq_false hc48
      refine WK.exit ?_
      repeat (first | refine XQ.then_ ?_ | refine XQ.block (by rfl) ?_)
      refine XQ.here ?_
      refine WK.seq ?_
      refine WK.seq ?_
      refine WK.region ?_
      refine Ly y_move ?_
      refine Ly y_not ?_
      refine WL.done ?_
      refine Kcond (ht := fun _ => ?_) (hf := fun h => by cases h)
      refine WK.seq ?_
      refine WK.region ?_
      refine Ly y_move ?_
      refine Ly y_move ?_
      refine Lyg (y_fieldAddr (hu := by exact Tryz.runUnderlying59) (hs := by exact Tryz.sizeOf57)) ?_
      refine Lyg (y_load (ha := by exact Tryz.isAgg57)) ?_
      refine Lyg (y_len (hu := by exact Tryz.runUnderlying57)) ?_
      refine Lyg y_eql ?_
      refine Ly y_pick_true ?_
      refine Ly y_assign ?_
      refine WL.done ?_
      refine WK.ret ?_
      repeat (first | refine RQ.block ?_ | refine RQ.then_ ?_)
      refine RQ.body (results1 (by rfl) (by rfl)) (fun w s => ?_)
      refine ⟨(), trivial, ?_, s.toCs (by repeat (first | exact SelL.nil | exact SelL.self | apply SelL.cons | exact Sel.here | apply Sel.there | apply SelL.skip))⟩
      rfl
    ·
     have hc34 := of_decide_eq_false hc34
     exfalso
     first | omega | (simp at hc34; done) | (simp at hc34; omega) | (simp_all; done) | (simp_all; omega)
   ·
    have hc29 := of_decide_eq_false hc29
    exfalso
    first | omega | (simp at hc29; done) | (simp at hc29; omega) | (simp_all; done) | (simp_all; omega)
  ·
   have hc24 := of_decide_eq_false hc24
   exfalso
   first | omega | (simp at hc24; done) | (simp at hc24; omega) | (simp_all; done) | (simp_all; omega)
 ·
  have hc13 := of_decide_eq_false hc13
  exfalso
  first | omega | (simp at hc13; done) | (simp at hc13; omega) | (simp_all; done) | (simp_all; omega)
set_option maxRecDepth 20000 in
set_option maxHeartbeats 1000000 in
theorem kind11_spec (pl : Bool) (q : Nat) (sh : Int) (nf ns : Nat) (W : LedW) (q2 q3 : Nat) (m : MoveM) (h1 : 0 ≤ m.frm ∧ m.frm ≤ 1073741824) (h2 : 0 ≤ m.to ∧ m.to ≤ 1073741824) (h3 : 0 ≤ m.item ∧ m.item < 4) (h4 : 1 ≤ m.n ∧ m.n ≤ 1099511627776) (h5 : m.frm ≠ m.to) :
  Triple Tryz.prog 128 #[.agg #[.int .i64 m.frm, .int .i64 m.to, .int .i64 m.item, .int .i64 m.n, .slice none 0 0], .pointer (some ⟨q2, 0, none⟩), .pointer (some ⟨q3, 0, none⟩)] [row true q2 55 [.pointer (some ⟨q, 0, none⟩)], row true q3 4 [.bool false], row pl q 120 (ledRow sh nf ns W)] (Unit) (fun _ => True) (fun _ => .bool false) (fun _ => [row true q2 55 [.pointer (some ⟨q, 0, none⟩)], row true q3 4 [.bool false], row pl q 120 (ledRow sh nf ns W)]) := by
 refine Triple.of_body (args := [.agg #[.int .i64 m.frm, .int .i64 m.to, .int .i64 m.item, .int .i64 m.n, .slice none 0 0], .pointer (some ⟨q2, 0, none⟩), .pointer (some ⟨q3, 0, none⟩)]) Tryz.func128 rfl Tryz.ntmps128 (by simp) (fun g F => ?_)
 dsimp only [numb, List.cons_append, List.nil_append]
 refine WK.seq ?_
 refine WK.region ?_
 refine Le e_box ?_
 rintro b3 -
 try dsimp only
 refine Ly y_assign ?_
 refine WL.done ?_
 refine WK.seq ?_
 refine WK.region ?_
 refine Ly (y_load (ha := by exact Tryz.isAgg55)) ?_
 refine Ly (y_loadA (ha := by exact Tryz.isAgg59) (hk := by exact Tryz.sizeOf59)) ?_
 refine Ly (y_load (ha := by exact Tryz.isAgg4)) ?_
 refine Le (e_call (by exact Tryz.call129) (t := moveL_spec pl q sh nf ns W m h1 h2 h3 h4 h5)) ?_
 rintro _ -
 try dsimp only
 refine Ly y_not ?_
 refine Ly y_assign ?_
 refine WL.done ?_
 refine WK.ret ?_
 repeat (first | refine RQ.block ?_ | refine RQ.then_ ?_)
 refine RQ.body (results1 (by rfl) (by rfl)) (fun w s => ?_)
 exact ⟨(), trivial, rfl, s.toCs (by repeat (first | exact SelL.nil | exact SelL.self | apply SelL.cons | exact Sel.here | apply Sel.there | apply SelL.skip))⟩
theorem Triple.packX {P : Program} {f : FuncId} {args : Array Value} {l : List HProp} {v : Value} (t : Triple P f args l Unit (fun _ => True) (fun _ => v) (fun _ => l)) : Triple P f args [pack l] Unit (fun _ => True) (fun _ => v) (fun _ => [pack l]) := fun g w F s => by
  refine (t g w F (Sat.unpack s)).mono ?_
  rintro e w' ⟨x, hx, rfl, s'⟩
  exact ⟨(), trivial, rfl, Sat.pack s'⟩
def goodMove (m : MoveM) : Prop := (0 ≤ m.frm ∧ m.frm ≤ 1073741824) ∧ (0 ≤ m.to ∧ m.to ≤ 1073741824) ∧ (0 ≤ m.item ∧ m.item < 4) ∧ (1 ≤ m.n ∧ m.n ≤ 1099511627776) ∧ m.frm ≠ m.to
theorem kind11_pred (pl : Bool) (q : Nat) (sh : Int) (nf ns : Nat) (W : LedW) (q2 q3 : Nat) : PredF Tryz.prog 128 [.pointer (some ⟨q2, 0, none⟩), .pointer (some ⟨q3, 0, none⟩)] (pack [row true q2 55 [.pointer (some ⟨q, 0, none⟩)], row true q3 4 [.bool false], row pl q 120 (ledRow sh nf ns W)]) (fun x => Value.agg (moveC x).toArray) goodMove (fun _ => false) :=
  ⟨Tryz.call128, fun x h => Triple.packX (kind11_spec pl q sh nf ns W q2 q3 x h.1 h.2.1 h.2.2.1 h.2.2.2.1 h.2.2.2.2)⟩
set_option maxRecDepth 20000 in
set_option maxHeartbeats 1000000 in
theorem indexFunc_move (f : FuncId) (caps : List Value) (X : HProp) (pr : MoveM → Bool) (S : MoveM → Prop) (hp : PredF Tryz.prog f caps X (fun x => Value.agg (moveC x).toArray) S pr) (p : Bool) (ad : Option Addr) (len cap : Nat) (l : List MoveM) (hlen : len ≤ 1000000) (hS : ∀ x ∈ l, S x) :
  Triple Tryz.prog 150 #[.slice ad len cap, .func (.func f) #[] caps.toArray] [sl p 59 5 ad len cap (flat moveC l), X] (Unit) (fun _ => True) (fun _ => .int .i64 (idxM pr l)) (fun _ => [sl p 59 5 ad len cap (flat moveC l), X]) := by
 refine Triple.of_body (args := [.slice ad len cap, .func (.func f) #[] caps.toArray]) Tryz.func150 rfl Tryz.ntmps150 (by simp) (fun g F => ?_)
 dsimp only [numb, List.cons_append, List.nil_append]
 refine WK.know (fun w s => Sat.slLen (s.sel1 (A := sl p 59 5 ad len cap (flat moveC l)) (by repeat (first | exact .here | apply Sel.there)))) (fun hkn => ?_)
 obtain ⟨n1, -⟩ := hkn
 rw [flat_len moveC_len] at n1
 replace n1 : l.length = _ := Nat.eq_of_mul_eq_mul_right (by omega) n1
 refine WK.seq ?_
 refine WK.region ?_
 refine Ly y_assign ?_
 refine WL.done ?_
 refine WK.seq ?_
 refine WK.seq ?_
 refine WK.region ?_
 refine Ly y_move ?_
 refine Ly (y_len (hu := by exact Tryz.runUnderlying60)) ?_
 refine Ly y_move ?_
 refine WL.done ?_
 refine WK.block ?_
 refine Kloop (ι := Nat) (fun i => i ≤ len ∧ ∀ (j : Nat) (y : MoveM), j < i → l[j]? = some y → pr y = false) (fun i => [(0, .slice ad len cap), (1, .func (.func f) #[] caps.toArray), (6, .slice ad len cap), (7, .int .i64 (len : Int)), (8, .int .i64 (i : Int))]) (fun _ => sl p 59 5 ad len cap (flat moveC l) :: X :: F) (fun i => len - i) (0) (⟨Nat.zero_le _, fun j y h => absurd h (Nat.not_lt_zero _)⟩) (round := ?_)
 rintro i ⟨hi, hno⟩ N hN
 refine WK.seq ?_
 refine WK.region ?_
 refine Ly y_lss ?_
 refine WL.done ?_
 refine WK.seq ?_
 refine Kcond (ht := fun hc9 => ?_) (hf := fun hc9 => ?_)
 ·
  have hc9 := of_decide_eq_true hc9
  obtain ⟨x, hx⟩ : ∃ x, l[i]? = some x := ⟨_, List.getElem?_eq_getElem (by omega)⟩
  refine WK.skip ?_
  refine WK.seq ?_
  refine WK.block ?_
  refine WK.seq ?_
  refine WK.region ?_
  refine Ly y_move ?_
  refine Ly y_assign ?_
  refine WL.done ?_
  refine WK.seq ?_
  refine WK.region ?_
  refine Ly y_move ?_
  refine Ly y_move ?_
  refine Ly y_move ?_
  refine Ly (y_indexAddrS (hu := by exact Tryz.runUnderlying60) (hz := by exact Tryz.sizeOf59) (j := i) (hi := by first | rfl | omega) (hj' := by omega) (hj := by omega)) ?_
  refine Ly (y_loadSA (ha := by exact Tryz.isAgg59) (hm := by exact Tryz.sizeOf59) (hv := by exact flat_cells moveC_len hx)) ?_
  refine Le (e_callV (f := f) (hc := hp.call) (he := by rfl) (t := hp.spec x (hS x (List.mem_of_getElem? hx)))) ?_
  rintro _ -
  try dsimp only
  refine WL.done ?_
  refine Kcond (ht := fun hc16 => ?_) (hf := fun hc16 => ?_)
  ·
   refine WK.seq ?_
   refine WK.region ?_
   refine Ly y_move ?_
   refine Ly y_assign ?_
   refine WL.done ?_
   refine WK.ret ?_
   repeat (first | refine RQ.block ?_ | refine RQ.then_ ?_)
   refine RQ.body (results1 (by rfl) (by rfl)) (fun w s => ?_)
   refine ⟨(), trivial, ?_, s.toCs (by repeat (first | exact SelL.nil | exact SelL.self | apply SelL.cons | exact Sel.here | apply Sel.there | apply SelL.skip))⟩
   rw [idxM_hit hx hc16 hno]
  ·
   refine WK.skip ?_
   refine WK.endBlock ?_
   refine WK.region ?_
   refine Ly y_add ?_
   refine Ly y_move ?_
   refine WL.done ?_
   refine Knext hN (i + 1) ⟨by omega, fun j y hj hy => ?_⟩ (by omega)
   by_cases hji : j = i
   · subst hji
     cases hx.symm.trans hy
     simpa using hc16
   · exact hno j y (by omega) hy
 ·
  have hc9 := of_decide_eq_false hc9
  refine WK.exit ?_
  repeat (first | refine XQ.then_ ?_ | refine XQ.block (by rfl) ?_)
  refine XQ.here ?_
  refine WK.seq ?_
  refine WK.region ?_
  refine Ly y_assign ?_
  refine WL.done ?_
  refine WK.ret ?_
  repeat (first | refine RQ.block ?_ | refine RQ.then_ ?_)
  refine RQ.body (results1 (by rfl) (by rfl)) (fun w s => ?_)
  refine ⟨(), trivial, ?_, s.toCs (by repeat (first | exact SelL.nil | exact SelL.self | apply SelL.cons | exact Sel.here | apply Sel.there | apply SelL.skip))⟩
  rw [idxM_none (fun j y hy => hno j y (by have := (List.getElem?_eq_some_iff.1 hy).1; omega) hy)]
set_option maxRecDepth 20000 in
set_option maxHeartbeats 1000000 in
theorem containsFunc_move (f : FuncId) (caps : List Value) (X : HProp) (pr : MoveM → Bool) (S : MoveM → Prop) (hp : PredF Tryz.prog f caps X (fun x => Value.agg (moveC x).toArray) S pr) (p : Bool) (ad : Option Addr) (len cap : Nat) (l : List MoveM) (hlen : len ≤ 1000000) (hS : ∀ x ∈ l, S x) :
  Triple Tryz.prog 127 #[.slice ad len cap, .func (.func f) #[] caps.toArray] [sl p 59 5 ad len cap (flat moveC l), X] (Unit) (fun _ => True) (fun _ => .bool (l.any pr)) (fun _ => [sl p 59 5 ad len cap (flat moveC l), X]) := by
 refine Triple.of_body (args := [.slice ad len cap, .func (.func f) #[] caps.toArray]) Tryz.func127 rfl Tryz.ntmps127 (by simp) (fun g F => ?_)
 dsimp only [numb, List.cons_append, List.nil_append]
 refine WK.seq ?_
 refine WK.region ?_
 refine Ly y_assign ?_
 refine WL.done ?_
 refine WK.seq ?_
 refine WK.region ?_
 refine Ly y_move ?_
 refine Ly y_move ?_
 refine Le (e_call (by exact Tryz.call150) (t := indexFunc_move f caps X pr S hp p ad len cap l hlen hS)) ?_
 rintro _ -
 try dsimp only
 refine Ly y_geq ?_
 refine Ly y_assign ?_
 refine WL.done ?_
 refine WK.ret ?_
 repeat (first | refine RQ.block ?_ | refine RQ.then_ ?_)
 refine RQ.body (results1 (by rfl) (by rfl)) (fun w s => ?_)
 refine ⟨(), trivial, ?_, s.toCs (by repeat (first | exact SelL.nil | exact SelL.self | apply SelL.cons | exact Sel.here | apply Sel.there | apply SelL.skip))⟩
 rw [idxM_any]
set_option maxRecDepth 20000 in
set_option maxHeartbeats 1000000 in
theorem kind1_spec (pl : Bool) (q : Nat) (sh : Int) (nf ns : Nat) (W : LedW) (q1 q2 : Nat) (p : Bool) (ad : Option Addr) (len cap : Nat) (l : List MoveM) (hlen : len ≤ 1000000) (hm : ∀ m ∈ l, goodMove m) :
  Triple Tryz.prog 126 #[.bool false, .pointer (some ⟨q1, 0, none⟩), .pointer (some ⟨q2, 0, none⟩)] [row true q2 55 [.pointer (some ⟨q, 0, none⟩)], row true q1 62 [.int .i64 0, .int .i64 0, .int .i64 0, .int .i64 0, .int .i64 (-1), .int .i64 0, .slice ad len cap], row pl q 120 (ledRow sh nf ns W), sl p 59 5 ad len cap (flat moveC l)] (Unit) (fun _ => True) (fun _ => .bool true) (fun _ => [row true q2 55 [.pointer (some ⟨q, 0, none⟩)], row true q1 62 [.int .i64 0, .int .i64 0, .int .i64 0, .int .i64 0, .int .i64 (-1), .int .i64 0, .slice ad len cap], row pl q 120 (ledRow sh nf ns W), sl p 59 5 ad len cap (flat moveC l)]) := by
 refine Triple.of_body (args := [.bool false, .pointer (some ⟨q1, 0, none⟩), .pointer (some ⟨q2, 0, none⟩)]) Tryz.func126 rfl Tryz.ntmps126 (by simp) (fun g F => ?_)
 dsimp only [numb, List.cons_append, List.nil_append]
 refine WK.seq ?_
 refine WK.region ?_
 refine Le e_box ?_
 rintro b3 -
 try dsimp only
 refine Ly y_assign ?_
 refine WL.done ?_
 refine WK.seq ?_
 refine WK.region ?_
 refine Ly (y_fieldAddr (hu := by exact Tryz.runUnderlying62) (hs := by exact Tryz.sizeOf60)) ?_
 refine Ly (y_load (ha := by exact Tryz.isAgg60)) ?_
 refine Ly y_mkFunc ?_
 refine WL.sat (fun w s => Sat.pack (l := [row true q2 55 [.pointer (some ⟨q, 0, none⟩)], row true b3 4 [.bool false], row pl q 120 (ledRow sh nf ns W)]) (s.sel (by repeat (first | exact SelL.nil | exact SelL.self | apply SelL.cons | exact Sel.here | apply Sel.there | apply SelL.skip)))) ?_
 refine Le (e_call (by exact Tryz.call127) (t := (containsFunc_move _ _ (pack [row true q2 55 [.pointer (some ⟨q, 0, none⟩)], row true b3 4 [.bool false], row pl q 120 (ledRow sh nf ns W)]) _ goodMove (kind11_pred pl q sh nf ns W q2 b3) p ad len cap l hlen hm))) ?_
 rintro _ -
 try dsimp only
 refine Ly y_not ?_
 refine Ly y_assign ?_
 refine WL.done ?_
 refine WK.ret ?_
 repeat (first | refine RQ.block ?_ | refine RQ.then_ ?_)
 refine RQ.body (results1 (by rfl) (by rfl)) (fun w s => ?_)
 refine ⟨(), trivial, ?_, ?_⟩
 · rw [show (l.any fun _ => false) = false from by simp]; rfl
 · have s1 := Sat.unpack (s.sel1 (A := pack [row true q2 55 [.pointer (some ⟨q, 0, none⟩)], row true b3 4 [.bool false], row pl q 120 (ledRow sh nf ns W)]) (by repeat (first | exact .here | apply Sel.there)))
   simp only [List.cons_append, List.nil_append] at s1
   exact s1.toCs (by repeat (first | exact SelL.nil | exact SelL.self | apply SelL.cons | exact Sel.here | apply Sel.there | apply SelL.skip))
set_option maxRecDepth 20000 in
set_option maxHeartbeats 1000000 in
theorem world_spec (x : Int) (h : x = 0) :
  Triple Tryz.prog 155 #[.int .i64 x] [] (Unit) (fun _ => True) (fun _ => .bool true) (fun _ => []) := by
 refine Triple.of_body (args := [.int .i64 x]) Tryz.func155 rfl Tryz.ntmps155 (by simp) (fun g F => ?_)
 dsimp only [numb, List.cons_append, List.nil_append]
 refine WK.seq ?_
 refine WK.region ?_
 refine Ly y_assign ?_
 refine WL.done ?_
 refine WK.seq ?_
 refine WK.region ?_
 refine Ly y_move ?_
 refine Ly y_eql ?_
 refine Ly y_assign ?_
 refine WL.done ?_
 refine WK.ret ?_
 repeat (first | refine RQ.block ?_ | refine RQ.then_ ?_)
 refine RQ.body (results1 (by rfl) (by rfl)) (fun w s => ?_)
 refine ⟨(), trivial, ?_, s⟩
 rw [decide_eq_true h]
set_option maxRecDepth 20000 in
set_option maxHeartbeats 1000000 in
theorem owner_spec (x : Int) (h : 0 < x) :
  Triple Tryz.prog 156 #[.int .i64 x] [] (Unit) (fun _ => True) (fun _ => .bool true) (fun _ => []) := by
 refine Triple.of_body (args := [.int .i64 x]) Tryz.func156 rfl Tryz.ntmps156 (by simp) (fun g F => ?_)
 dsimp only [numb, List.cons_append, List.nil_append]
 refine WK.seq ?_
 refine WK.region ?_
 refine Ly y_assign ?_
 refine WL.done ?_
 refine WK.seq ?_
 refine WK.region ?_
 refine Ly y_move ?_
 refine Ly y_gtr ?_
 refine Ly y_assign ?_
 refine WL.done ?_
 refine WK.ret ?_
 repeat (first | refine RQ.block ?_ | refine RQ.then_ ?_)
 refine RQ.body (results1 (by rfl) (by rfl)) (fun w s => ?_)
 refine ⟨(), trivial, ?_, s⟩
 rw [decide_eq_true h]
set_option maxRecDepth 20000 in
set_option maxHeartbeats 1000000 in
theorem forms_spec  :
  Triple Tryz.prog 132 #[] [] (Nat) (fun _ => True) (fun b => .slice (some ⟨b, 0, none⟩) 10 10) (fun b => [sl true 218 3 (some ⟨b, 0, none⟩) 10 10 formC]) := by
 refine Triple.of_body (args := []) Tryz.func132 rfl Tryz.ntmps132 (by simp) (fun g F => ?_)
 dsimp only [numb, List.cons_append, List.nil_append]
 refine WK.seq ?_
 refine WK.region ?_
 refine Ly y_assign ?_
 refine WL.done ?_
 refine WK.seq ?_
 refine WK.region ?_
 refine Ly (y_build (hz := by exact Tryz.zeroValue218) (hu := by exact Tryz.runUnderlying218) (hp := by exact fun w => places218 w Tryz.underlying218) (hne := by first | decide | simp)) ?_
 refine Ly (y_build (hz := by exact Tryz.zeroValue218) (hu := by exact Tryz.runUnderlying218) (hp := by exact fun w => places218 w Tryz.underlying218) (hne := by first | decide | simp)) ?_
 refine Ly (y_build (hz := by exact Tryz.zeroValue218) (hu := by exact Tryz.runUnderlying218) (hp := by exact fun w => places218 w Tryz.underlying218) (hne := by first | decide | simp)) ?_
 refine Ly (y_build (hz := by exact Tryz.zeroValue218) (hu := by exact Tryz.runUnderlying218) (hp := by exact fun w => places218 w Tryz.underlying218) (hne := by first | decide | simp)) ?_
 refine Ly (y_build (hz := by exact Tryz.zeroValue218) (hu := by exact Tryz.runUnderlying218) (hp := by exact fun w => places218 w Tryz.underlying218) (hne := by first | decide | simp)) ?_
 refine Ly (y_build (hz := by exact Tryz.zeroValue218) (hu := by exact Tryz.runUnderlying218) (hp := by exact fun w => places218 w Tryz.underlying218) (hne := by first | decide | simp)) ?_
 refine Ly (y_build (hz := by exact Tryz.zeroValue218) (hu := by exact Tryz.runUnderlying218) (hp := by exact fun w => places218 w Tryz.underlying218) (hne := by first | decide | simp)) ?_
 refine Ly (y_build (hz := by exact Tryz.zeroValue218) (hu := by exact Tryz.runUnderlying218) (hp := by exact fun w => places218 w Tryz.underlying218) (hne := by first | decide | simp)) ?_
 refine Ly (y_build (hz := by exact Tryz.zeroValue218) (hu := by exact Tryz.runUnderlying218) (hp := by exact fun w => places218 w Tryz.underlying218) (hne := by first | decide | simp)) ?_
 refine Le (e_mkSlice (zs := formZ) (cs := formC) (hu := Tryz.runUnderlying219) (hk := Tryz.sizeOf218) (hz := Tryz.zeroValue218) (hzs := by kernel_rfl) (hb := by decide) (hk0 := by rfl) (hl0 := by rfl) (h1 := by rfl)) ?_
 rintro b10 -
 try dsimp only
 refine Ly y_assign ?_
 refine WL.done ?_
 refine WK.ret ?_
 repeat (first | refine RQ.block ?_ | refine RQ.then_ ?_)
 refine RQ.body (results1 (by rfl) (by rfl)) (fun w s => ?_)
 exact ⟨b10, trivial, rfl, s⟩
set_option maxRecDepth 20000 in
set_option maxHeartbeats 1000000 in
theorem kind2_spec (q6 : Nat) (m : MoveM) (h1 : m.frm = 0) (h2 : 0 < m.to) :
  Triple Tryz.prog 133 #[.agg #[.int .i64 m.frm, .int .i64 m.to, .int .i64 m.item, .int .i64 m.n, .slice none 0 0], .pointer (some ⟨q6, 0, none⟩)] [row true q6 218 [.func (.func 155) #[] #[], .func (.func 156) #[] #[], .bool false]] (Unit) (fun _ => True) (fun _ => .bool false) (fun _ => [row true q6 218 [.func (.func 155) #[] #[], .func (.func 156) #[] #[], .bool false]]) := by
 refine Triple.of_body (args := [.agg #[.int .i64 m.frm, .int .i64 m.to, .int .i64 m.item, .int .i64 m.n, .slice none 0 0], .pointer (some ⟨q6, 0, none⟩)]) Tryz.func133 rfl Tryz.ntmps133 (by simp) (fun g F => ?_)
 dsimp only [numb, List.cons_append, List.nil_append]
 refine WK.seq ?_
 refine WK.region ?_
 refine Le e_box ?_
 rintro b2 -
 try dsimp only
 refine Ly y_assign ?_
 refine WL.done ?_
 refine WK.seq ?_
 refine WK.region ?_
 refine Ly (y_fieldAddr (hu := by exact Tryz.runUnderlying218) (hs := by exact Tryz.sizeOf85)) ?_
 refine Ly (y_load (ha := by exact Tryz.isAgg85)) ?_
 refine Ly (y_fieldAddr (hu := by exact Tryz.runUnderlying59) (hs := by exact Tryz.sizeOf3)) ?_
 refine Ly (y_load (ha := by exact Tryz.isAgg3)) ?_
 refine Le (e_callV (f := 155) (hc := by exact Tryz.call155) (he := by rfl) (t := world_spec m.frm h1)) ?_
 rintro _ -
 try dsimp only
 refine Ly y_not ?_
 refine Ly y_move ?_
 refine Lyg (y_fieldAddr (hu := by exact Tryz.runUnderlying218) (hs := by exact Tryz.sizeOf85)) ?_
 refine Lyg (y_load (ha := by exact Tryz.isAgg85)) ?_
 refine Lyg (y_fieldAddr (hu := by exact Tryz.runUnderlying59) (hs := by exact Tryz.sizeOf3)) ?_
 refine Lyg (y_load (ha := by exact Tryz.isAgg3)) ?_
 refine Leg (e_callV (f := 156) (hc := by exact Tryz.call156) (he := by rfl) (t := owner_spec m.to h2)) ?_
 rintro _ -
 try dsimp only
 refine Lyg y_not ?_
 refine Ly y_pick_false ?_
 refine Ly y_assign ?_
 refine WL.done ?_
 refine WK.ret ?_
 repeat (first | refine RQ.block ?_ | refine RQ.then_ ?_)
 refine RQ.body (results1 (by rfl) (by rfl)) (fun w s => ?_)
 exact ⟨(), trivial, rfl, s.toCs (by repeat (first | exact SelL.nil | exact SelL.self | apply SelL.cons | exact Sel.here | apply Sel.there | apply SelL.skip))⟩
def spawnMv (m : MoveM) : Prop := m.frm = 0 ∧ 0 < m.to
theorem kind2_pred (q6 : Nat) : PredF Tryz.prog 133 [.pointer (some ⟨q6, 0, none⟩)] (pack [row true q6 218 [.func (.func 155) #[] #[], .func (.func 156) #[] #[], .bool false]]) (fun x => Value.agg (moveC x).toArray) spawnMv (fun _ => false) :=
  ⟨Tryz.call133, fun x h => Triple.packX (kind2_spec q6 x h.1 h.2)⟩
set_option maxRecDepth 20000 in
set_option maxHeartbeats 3000000 in
theorem kind_spec (pl : Bool) (q : Nat) (sh : Int) (nf ns : Nat) (W : LedW) (p : Bool) (ad : Option Addr) (len cap : Nat) (l : List MoveM) (hlen : len ≤ 1000000) (hm : ∀ m ∈ l, goodMove m) (hs : ∀ m ∈ l, spawnMv m) :
  Triple Tryz.prog 95 #[.pointer (some ⟨q, 0, none⟩), .agg #[.int .i64 0, .int .i64 0, .int .i64 0, .int .i64 0, .int .i64 (-1), .int .i64 0, .slice ad len cap]] [row pl q 120 (ledRow sh nf ns W), sl p 59 5 ad len cap (flat moveC l)] (Unit) (fun _ => True) (fun _ => .bool true) (fun _ => [row pl q 120 (ledRow sh nf ns W), sl p 59 5 ad len cap (flat moveC l)]) := by
 refine Triple.of_body (args := [.pointer (some ⟨q, 0, none⟩), .agg #[.int .i64 0, .int .i64 0, .int .i64 0, .int .i64 0, .int .i64 (-1), .int .i64 0, .slice ad len cap]]) Tryz.func95 rfl Tryz.ntmps95 (by simp) (fun g F => ?_)
 dsimp only [numb, List.cons_append, List.nil_append]
 refine WK.seq ?_
 refine WK.region ?_
 refine Le e_box ?_
 rintro b2 -
 try dsimp only
 refine Le e_box ?_
 rintro b3 -
 try dsimp only
 refine Ly y_assign ?_
 refine WL.done ?_
 refine WK.seq ?_
 refine WK.region ?_
 refine Ly y_mkFunc ?_
 refine Ly y_assign ?_
 refine WL.done ?_
 refine WK.seq ?_
 refine WK.seq ?_
 refine WK.region ?_
 refine Ly (y_fieldAddr (hu := by exact Tryz.runUnderlying62) (hs := by exact Tryz.sizeOf3)) ?_
 refine Ly (y_load (ha := by exact Tryz.isAgg3)) ?_
 refine WL.done ?_
 refine WK.block ?_
 refine WK.seq ?_
 refine WK.region ?_
 refine Ly y_eql ?_
 refine Ly y_assign ?_
 refine WL.done ?_
 refine Kcond (ht := fun h => by cases h) (hf := fun _ => ?_)
 refine WK.seq ?_
 refine WK.region ?_
 refine Ly y_eql ?_
 refine Ly y_assign ?_
 refine WL.done ?_
 refine Kcond (ht := fun h => by cases h) (hf := fun _ => ?_)
 refine WK.skip ?_
 refine WK.endBlock ?_
 refine WK.seq ?_
 refine WK.cut (ι := Nat) (fun _ => True) (fun z => [(2, .pointer (some ⟨b2, 0, none⟩)), (3, .pointer (some ⟨b3, 0, none⟩)), (5, .func (.func 126) #[] #[.pointer (some ⟨b3, 0, none⟩), .pointer (some ⟨b2, 0, none⟩)]), (6, .pointer (some ⟨z, 0, none⟩))]) (fun z => row true z 218 [.func (.func 155) #[] #[], .func (.func 156) #[] #[], .bool false] :: row true b2 55 [.pointer (some ⟨q, 0, none⟩)] :: row true b3 62 [.int .i64 0, .int .i64 0, .int .i64 0, .int .i64 0, .int .i64 (-1), .int .i64 0, .slice ad len cap] :: row pl q 120 (ledRow sh nf ns W) :: sl p 59 5 ad len cap (flat moveC l) :: F) ?_ ?_
 ·
  rintro b6 -
  refine WK.seq ?_
  refine WK.region ?_
  refine Ly y_move ?_
  refine Ly (y_fieldAddr (hu := by exact Tryz.runUnderlying218) (hs := by exact Tryz.sizeOf4)) ?_
  refine Ly (y_load (ha := by exact Tryz.isAgg4)) ?_
  refine Le (e_callV (f := 126) (hc := by exact Tryz.call126) (he := by rfl) (t := kind1_spec pl q sh nf ns W b3 b2 p ad len cap l hlen hm)) ?_
  rintro _ -
  try dsimp only
  refine Ly y_move ?_
  refine Lyg (y_fieldAddr (hu := by exact Tryz.runUnderlying62) (hs := by exact Tryz.sizeOf3)) ?_
  refine Lyg (y_load (ha := by exact Tryz.isAgg3)) ?_
  refine Lyg y_eql ?_
  refine Ly y_pick_true ?_
  refine Ly y_move ?_
  refine Lyg (y_fieldAddr (hu := by exact Tryz.runUnderlying62) (hs := by exact Tryz.sizeOf3)) ?_
  refine Lyg (y_load (ha := by exact Tryz.isAgg3)) ?_
  refine Lyg y_eql ?_
  refine Ly y_pick_true ?_
  refine Ly y_move ?_
  refine Lyg (y_fieldAddr (hu := by exact Tryz.runUnderlying62) (hs := by exact Tryz.sizeOf60)) ?_
  refine Lyg (y_load (ha := by exact Tryz.isAgg60)) ?_
  refine Lyg y_mkFunc ?_
  refine WL.sat (fun w s => Sat.pack (l := [row true b6 218 [.func (.func 155) #[] #[], .func (.func 156) #[] #[], .bool false]]) (s.sel (by repeat (first | exact SelL.nil | exact SelL.self | apply SelL.cons | exact Sel.here | apply Sel.there | apply SelL.skip)))) ?_
  refine Leg (e_call (by exact Tryz.call127) (t := (containsFunc_move _ _ (pack [row true b6 218 [.func (.func 155) #[] #[], .func (.func 156) #[] #[], .bool false]]) _ spawnMv (kind2_pred b6) p ad len cap l hlen hs))) ?_
  rintro _ -
  rw [show (l.any fun _ => false) = false from by simp]
  try dsimp only
  refine Lyg y_not ?_
  refine Ly y_pick_true ?_
  refine Ly y_assign ?_
  refine WL.done ?_
  refine WK.ret ?_
  repeat (first | refine RQ.block ?_ | refine RQ.then_ ?_)
  refine RQ.body (results1 (by rfl) (by rfl)) (fun w s => ?_)
  exact ⟨(), trivial, rfl, s.toCs (by repeat (first | exact SelL.nil | exact SelL.self | apply SelL.cons | exact Sel.here | apply Sel.there | apply SelL.skip))⟩
 ·
  intro JR7
  refine KdrT (t := OT.q 1 (OT.q 2 (OT.alt 0 (OT.alt 3 (OT.alt 4 (OT.e 5 (OT.e 6 OT.done)) (OT.alt 5 (OT.e 4 (OT.e 6 OT.done)) OT.stop)) (OT.alt 5 (OT.e 3 (OT.e 4 (OT.e 6 OT.done))) OT.stop)) (OT.alt 5 (OT.e 0 (OT.e 3 (OT.e 4 (OT.e 6 OT.done)))) OT.stop)))) (Cs := [row true b3 62 [.int .i64 0, .int .i64 0, .int .i64 0, .int .i64 0, .int .i64 (-1), .int .i64 0, .slice ad len cap]]) (h := ?_)
  refine Ty (y := y_fieldAddr (hu := by exact Tryz.runUnderlying62) (hs := by exact Tryz.sizeOf3)) (h := ?_)
  refine Ty (y := y_load (ha := by exact Tryz.isAgg3)) (h := ?_)
  refine WT.alt ?_ ?_
  ·
   refine Te (e := e_call (by exact Tryz.call132) (t := forms_spec)) (h := ?_)
   rintro b27 -
   try dsimp only
   refine WT.alt ?_ ?_
   ·
    refine Te (e := Yld.eff (yld_indexAddrS (by rfl) (by rfl) (by exact Tryz.runUnderlying219) (by exact Tryz.sizeOf218) (by repeat (first | exact .here | apply Sel.there)) (0) (by first | rfl | omega) (by omega) (by omega) (by rfl))) (h := ?_)
    rintro _ -
    try dsimp only
    refine WT.alt ?_ ?_
    ·
     refine Te (e := Yld.eff (yld_loadSA (by rfl) (by exact Tryz.isAgg218) (by exact Tryz.sizeOf218) (by repeat (first | exact .here | apply Sel.there)) (by repeat (first | exact Cells.nil | apply Cells.cons | rfl)))) (h := ?_)
     rintro _ -
     try dsimp only
     refine Te (e := e_alloc (by exact Tryz.zeroValue218)) (h := ?_)
     rintro b6 -
     try dsimp only
     refine Te0 (e := e_store (hk := by exact Tryz.sizeOf218) (h1 := by rfl)) (h := ?_)
     rintro _ -
     try dsimp only
     refine WT.done ?_
     exact Kgoto JR7 b6 trivial
    refine WT.alt ?_ ?_
    ·
     refine Te (e := e_alloc (by exact Tryz.zeroValue218)) (h := ?_)
     rintro b6 -
     try dsimp only
     refine Te (e := Yld.eff (yld_loadSA (by rfl) (by exact Tryz.isAgg218) (by exact Tryz.sizeOf218) (by repeat (first | exact .here | apply Sel.there)) (by repeat (first | exact Cells.nil | apply Cells.cons | rfl)))) (h := ?_)
     rintro _ -
     try dsimp only
     refine Te0 (e := e_store (hk := by exact Tryz.sizeOf218) (h1 := by rfl)) (h := ?_)
     rintro _ -
     try dsimp only
     refine WT.done ?_
     exact Kgoto JR7 b6 trivial
    exact WT.stop
   refine WT.alt ?_ ?_
   ·
    refine Te (e := e_alloc (by exact Tryz.zeroValue218)) (h := ?_)
    rintro b6 -
    try dsimp only
    refine Te (e := Yld.eff (yld_indexAddrS (by rfl) (by rfl) (by exact Tryz.runUnderlying219) (by exact Tryz.sizeOf218) (by repeat (first | exact .here | apply Sel.there)) (0) (by first | rfl | omega) (by omega) (by omega) (by rfl))) (h := ?_)
    rintro _ -
    try dsimp only
    refine Te (e := Yld.eff (yld_loadSA (by rfl) (by exact Tryz.isAgg218) (by exact Tryz.sizeOf218) (by repeat (first | exact .here | apply Sel.there)) (by repeat (first | exact Cells.nil | apply Cells.cons | rfl)))) (h := ?_)
    rintro _ -
    try dsimp only
    refine Te0 (e := e_store (hk := by exact Tryz.sizeOf218) (h1 := by rfl)) (h := ?_)
    rintro _ -
    try dsimp only
    refine WT.done ?_
    exact Kgoto JR7 b6 trivial
   exact WT.stop
  refine WT.alt ?_ ?_
  ·
   refine Te (e := e_alloc (by exact Tryz.zeroValue218)) (h := ?_)
   rintro b6 -
   try dsimp only
   refine Te (e := e_call (by exact Tryz.call132) (t := forms_spec)) (h := ?_)
   rintro b27 -
   try dsimp only
   refine Te (e := Yld.eff (yld_indexAddrS (by rfl) (by rfl) (by exact Tryz.runUnderlying219) (by exact Tryz.sizeOf218) (by repeat (first | exact .here | apply Sel.there)) (0) (by first | rfl | omega) (by omega) (by omega) (by rfl))) (h := ?_)
   rintro _ -
   try dsimp only
   refine Te (e := Yld.eff (yld_loadSA (by rfl) (by exact Tryz.isAgg218) (by exact Tryz.sizeOf218) (by repeat (first | exact .here | apply Sel.there)) (by repeat (first | exact Cells.nil | apply Cells.cons | rfl)))) (h := ?_)
   rintro _ -
   try dsimp only
   refine Te0 (e := e_store (hk := by exact Tryz.sizeOf218) (h1 := by rfl)) (h := ?_)
   rintro _ -
   try dsimp only
   refine WT.done ?_
   exact Kgoto JR7 b6 trivial
  exact WT.stop
set_option maxRecDepth 20000 in
set_option maxHeartbeats 3000000 in
theorem check_spec (pl : Bool) (q : Nat) (sh : Int) (nf ns : Nat) (W : LedW) (ps : Bool) (xs : List Value) (hx : Ticks ns xs) (hns : ns ≤ 60000) (p : Bool) (ad : Option Addr) (cap : Nat) (m : MoveM) (hm : goodMove m) (hs : spawnMv m) :
  Triple Tryz.prog 68 #[.pointer (some ⟨q, 0, none⟩), .agg #[.int .i64 0, .int .i64 0, .int .i64 0, .int .i64 0, .int .i64 (-1), .int .i64 0, .slice ad 1 cap]] [row pl q 120 (ledRow sh nf ns W), sl ps 62 7 W.sa ns W.sc xs, sl p 59 5 ad 1 cap (flat moveC [m])] (Unit) (fun _ => True) (fun _ => .int .i64 0) (fun _ => [row pl q 120 (ledRow sh nf ns W), sl ps 62 7 W.sa ns W.sc xs, sl p 59 5 ad 1 cap (flat moveC [m])]) := by
 refine Triple.of_body (args := [.pointer (some ⟨q, 0, none⟩), .agg #[.int .i64 0, .int .i64 0, .int .i64 0, .int .i64 0, .int .i64 (-1), .int .i64 0, .slice ad 1 cap]]) Tryz.func68 rfl Tryz.ntmps68 (by simp) (fun g F => ?_)
 dsimp only [numb, List.cons_append, List.nil_append]
 refine WK.seq ?_
 refine WK.region ?_
 refine Le e_box ?_
 rintro b3 -
 try dsimp only
 refine Ly y_assign ?_
 refine WL.done ?_
 refine WK.seq ?_
 refine WK.seq ?_
 refine WK.region ?_
 refine Ly y_move ?_
 refine Ly y_nilCheck ?_
 refine Ly (y_fieldAddr (hu := by exact Tryz.runUnderlying120) (hs := by exact Tryz.sizeOf108)) ?_
 refine Ly (y_load (ha := by exact Tryz.isAgg108)) ?_
 refine Ly (y_len (hu := by exact Tryz.runUnderlying108)) ?_
 refine Ly y_geq ?_
 refine WL.done ?_
 refine Kcond (ht := fun hc10 => ?_) (hf := fun hc10 => ?_)
 ·
  have hc10 := of_decide_eq_true hc10
  exfalso
  first | omega | (simp at hc10; done) | (simp at hc10; omega) | (simp_all; done) | (simp_all; omega)
 ·
  have hc10 := of_decide_eq_false hc10
  refine WK.skip ?_
  refine WK.seq ?_
  refine WK.seq ?_
  refine Kdr (l := [(0, 0), (1, 0), (2, 0), (3, 0), (4, 0), (5, 0), (6, 0), (7, 0), (8, 0), (9, 0), (10, 0), (11, 0), (12, 0), (13, 0), (14, 0), (15, 0), (16, 0), (17, 0), (18, 0), (19, 0), (20, 0), (21, 0), (22, 1), (23, 0), (24, 0), (25, 0), (26, 0), (27, 0), (28, 0), (29, 0), (30, 0), (31, 0), (32, 0), (33, 0), (34, 0), (35, 0), (36, 0), (37, 0), (38, 0), (39, 0), (40, 0), (41, 0), (42, 0), (43, 0), (44, 0), (45, 1), (46, 0), (47, 0)]) (Cs := [row true b3 62 [.int .i64 0, .int .i64 0, .int .i64 0, .int .i64 0, .int .i64 (-1), .int .i64 0, .slice ad 1 cap]]) (h := ?_)
  refine Oy (y := y_fieldAddr (hu := by exact Tryz.runUnderlying62) (hs := by exact Tryz.sizeOf3)) (h := ?_)
  refine Oy (y := y_load (ha := by exact Tryz.isAgg3)) (h := ?_)
  refine Oy (y := y_lss) (h := ?_)
  refine Oy (y := y_move) (h := ?_)
  refine Oyg (y := y_fieldAddr (hu := by exact Tryz.runUnderlying62) (hs := by exact Tryz.sizeOf3)) (h := ?_)
  refine Oyg (y := y_load (ha := by exact Tryz.isAgg3)) (h := ?_)
  refine Oyg (y := y_gtr) (h := ?_)
  refine Oy (y := y_pick_false) (h := ?_)
  refine Oy (y := y_move) (h := ?_)
  refine Oyg (y := y_fieldAddr (hu := by exact Tryz.runUnderlying62) (hs := by exact Tryz.sizeOf3)) (h := ?_)
  refine Oyg (y := y_load (ha := by exact Tryz.isAgg3)) (h := ?_)
  refine Oyg (y := y_lss) (h := ?_)
  refine Oy (y := y_pick_false) (h := ?_)
  refine Oy (y := y_move) (h := ?_)
  refine Oyg (y := y_fieldAddr (hu := by exact Tryz.runUnderlying62) (hs := by exact Tryz.sizeOf3)) (h := ?_)
  refine Oyg (y := y_load (ha := by exact Tryz.isAgg3)) (h := ?_)
  refine Oyg (y := y_gtr) (h := ?_)
  refine Oy (y := y_pick_false) (h := ?_)
  refine Oy (y := y_move) (h := ?_)
  refine Oyg (y := y_fieldAddr (hu := by exact Tryz.runUnderlying62) (hs := by exact Tryz.sizeOf3)) (h := ?_)
  refine Oyg (y := y_load (ha := by exact Tryz.isAgg3)) (h := ?_)
  refine Oyg (y := y_move) (h := ?_)
  refine Oeg (e := e_call (by exact Tryz.call94) (t := now_spec pl q sh nf ns W ps xs hx hns)) (h := ?_)
  rintro _ -
  try dsimp only
  refine Oyg (y := y_lss) (h := ?_)
  refine Oy (y := y_pick_false) (h := ?_)
  refine Oy (y := y_move) (h := ?_)
  refine Oyg (y := y_fieldAddr (hu := by exact Tryz.runUnderlying62) (hs := by exact Tryz.sizeOf3)) (h := ?_)
  refine Oyg (y := y_load (ha := by exact Tryz.isAgg3)) (h := ?_)
  refine Oyg (y := y_gtr) (h := ?_)
  refine Oy (y := y_pick_false) (h := ?_)
  refine Oy (y := y_move) (h := ?_)
  refine Oyg (y := y_fieldAddr (hu := by exact Tryz.runUnderlying62) (hs := by exact Tryz.sizeOf60)) (h := ?_)
  refine Oyg (y := y_load (ha := by exact Tryz.isAgg60)) (h := ?_)
  refine Oyg (y := y_len (hu := by exact Tryz.runUnderlying60)) (h := ?_)
  refine Oyg (y := y_lss) (h := ?_)
  refine Oy (y := y_pick_false) (h := ?_)
  refine Oy (y := y_move) (h := ?_)
  refine Oyg (y := y_fieldAddr (hu := by exact Tryz.runUnderlying62) (hs := by exact Tryz.sizeOf60)) (h := ?_)
  refine Oyg (y := y_load (ha := by exact Tryz.isAgg60)) (h := ?_)
  refine Oyg (y := y_len (hu := by exact Tryz.runUnderlying60)) (h := ?_)
  refine Oyg (y := y_gtr) (h := ?_)
  refine Oy (y := y_pick_false) (h := ?_)
  refine Oy (y := y_move) (h := ?_)
  refine Oyg (y := y_move) (h := ?_)
  refine Oyg (y := y_loadA (ha := by exact Tryz.isAgg62) (hk := by exact Tryz.sizeOf62)) (h := ?_)
  refine Oeg (e := e_call (by exact Tryz.call95) (t := kind_spec pl q sh nf ns W p ad 1 cap [m] (by decide) (by simpa using hm) (by simpa using hs))) (h := ?_)
  rintro _ -
  try dsimp only
  refine Oyg (y := y_not) (h := ?_)
  refine Oy (y := y_pick_false) (h := ?_)
  refine WO.done ?_
  refine Kcond (ht := fun h => by cases h) (hf := fun _ => ?_)
  refine WK.skip ?_
  refine WK.seq ?_
  refine WK.region ?_
  refine Ly y_assign ?_
  refine WL.done ?_
  refine WK.ret ?_
  repeat (first | refine RQ.block ?_ | refine RQ.then_ ?_)
  refine RQ.body (results1 (by rfl) (by rfl)) (fun w s => ?_)
  exact ⟨(), trivial, rfl, s.toCs (by repeat (first | exact SelL.nil | exact SelL.self | apply SelL.cons | exact Sel.here | apply Sel.there | apply SelL.skip))⟩
end Go.Proofs.YtkakfmcjiabjjaaGreatDoor
