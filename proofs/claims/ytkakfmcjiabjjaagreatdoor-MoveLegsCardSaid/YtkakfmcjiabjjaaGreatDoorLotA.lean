import Derived.Test.YtkakfmcjiabjjaaGreatDoorSepQ
import Derived.Test.YtkakfmcjiabjjaaGreatDoorLexB
namespace Go.Proofs.YtkakfmcjiabjjaaGreatDoor
set_option linter.unusedVariables false
set_option linter.unusedSimpArgs false
set_option linter.unusedSectionVars false
set_option linter.unnecessarySimpa false
open Go Go.Sep
attribute [local irreducible] row sl mapO held exL allR byt mapI slr mapK rangeK vec pack
structure LotM where
  flow : Int
  at_ : Int
  n : Int
def lotC (x : LotM) : List Value := [.int .i64 x.flow, .int .i64 x.at_, .int .i64 x.n]
theorem lotC_len : ∀ x, (lotC x).length = 3 := fun _ => rfl
def okLot (x : LotM) : Prop := 0 ≤ x.flow ∧ 0 ≤ x.at_ ∧ 1 ≤ x.n ∧ x.n ≤ 1099511627776 ∧ x.at_ ≤ 1099511627776 - x.n
instance (x : LotM) : Decidable (okLot x) := by unfold okLot; infer_instance
def VL (l : List LotM) : Prop := l.length ≤ 4096 ∧ ∀ x ∈ l, okLot x
instance (l : List LotM) : Decidable (VL l) := by unfold VL; infer_instance
theorem VL_dec {l : List LotM} (h : l.length ≤ 4096) : (!(l.any fun x => !decide (okLot x))) = decide (VL l) := by
  by_cases hv : VL l
  · rw [decide_eq_true hv]
    have : l.any (fun x => !decide (okLot x)) = false := by
      rw [List.any_eq_false]
      intro x hx
      simp [hv.2 x hx]
    rw [this]; rfl
  · rw [decide_eq_false hv]
    have : l.any (fun x => !decide (okLot x)) = true := by
      rw [List.any_eq_true]
      refine Classical.byContradiction fun hn => hv ⟨h, fun x hx => Classical.byContradiction fun ho => hn ⟨x, hx, by simp [ho]⟩⟩
    rw [this]; rfl
def totM : List LotM → Int
  | [] => 0
  | x :: l => x.n + totM l
theorem totM_app : ∀ (l m : List LotM), totM (l ++ m) = totM l + totM m
  | [], m => by simp [totM]
  | x :: l, m => by simp [totM, totM_app l m]; omega
theorem totM_more {l : List LotM} {i : Nat} {x : LotM} (h : l[i]? = some x) : totM (l.take (i + 1)) = totM (l.take i) + x.n := by
  rw [List.take_add_one, h, totM_app]
  simp [totM]
theorem totM_bound : ∀ {l : List LotM}, (∀ x ∈ l, okLot x) → 0 ≤ totM l ∧ totM l ≤ l.length * 1099511627776
  | [], _ => by simp [totM]
  | x :: l, h => by
    have h1 := h x (by simp)
    have h2 := totM_bound (l := l) fun y hy => h y (by simp [hy])
    unfold okLot at h1
    simp only [totM, List.length_cons]
    omega
theorem totM_take {l : List LotM} (h : VL l) (i : Nat) : 0 ≤ totM (l.take i) ∧ totM (l.take i) ≤ 4096 * 1099511627776 := by
  have := totM_bound (l := l.take i) fun x hx => h.2 x (List.mem_of_mem_take hx)
  have hl : (l.take i).length ≤ 4096 := by have := h.1; rw [List.length_take]; omega
  omega
theorem elem57 : ElemT Tryz.prog 57 145 3 24 := ⟨Tryz.underlying57, ⟨Tryz.t145, _, by kernel_rfl, rfl, rfl, rfl, rfl⟩⟩
theorem places145 (w : World) : ∀ {fs : Array Field}, Tryz.prog.underlying 145 = some (.struct fs) → Sem.run Tryz.prog (fs.mapM fun f => Prod.mk f.offset <$> sizeOf f.type) w = .ok #[(0, 1), (1, 1), (2, 1)] w := by
  intro fs h
  rw [Tryz.underlying145] at h
  cases h
  simp
set_option maxRecDepth 20000 in
set_option maxHeartbeats 1000000 in
theorem possibleL_spec (x : LotM) :
  Triple Tryz.prog 100 #[.agg #[.int .i64 x.flow, .int .i64 x.at_, .int .i64 x.n]] [] (Unit) (fun _ => True) (fun _ => .bool (decide (okLot x))) (fun _ => []) := by
 refine Triple.of_body (args := [.agg #[.int .i64 x.flow, .int .i64 x.at_, .int .i64 x.n]]) Tryz.func100 rfl Tryz.ntmps100 (by simp) (fun g F => ?_)
 dsimp only [numb, List.cons_append, List.nil_append]
 refine WK.seq ?_
 refine WK.region ?_
 refine Le e_box ?_
 rintro b1 -
 try dsimp only
 refine Ly y_assign ?_
 refine WL.done ?_
 refine WK.seq ?_
 refine WK.region ?_
 refine Ly (y_fieldAddr (hu := by exact Tryz.runUnderlying145) (hs := by exact Tryz.sizeOf3)) ?_
 refine Ly (y_load (ha := by exact Tryz.isAgg3)) ?_
 refine Ly y_geq ?_
 refine Ly y_move ?_
 refine WL.split (d := 6) (by rfl) (fun hc6 => ?_) (fun hc6 => ?_)
 ·
  have hc6 := of_decide_eq_true hc6
  refine Lyg (y_fieldAddr (hu := by exact Tryz.runUnderlying145) (hs := by exact Tryz.sizeOf3)) ?_
  refine Lyg (y_load (ha := by exact Tryz.isAgg3)) ?_
  refine Lyg y_geq ?_
  refine Ly y_pick_true ?_
  refine Ly y_move ?_
  refine WL.split (d := 11) (by rfl) (fun hc11 => ?_) (fun hc11 => ?_)
  ·
   have hc11 := of_decide_eq_true hc11
   refine Lyg (y_fieldAddr (hu := by exact Tryz.runUnderlying145) (hs := by exact Tryz.sizeOf3)) ?_
   refine Lyg (y_load (ha := by exact Tryz.isAgg3)) ?_
   refine Lyg y_geq ?_
   refine Ly y_pick_true ?_
   refine Ly y_move ?_
   refine WL.split (d := 16) (by rfl) (fun hc16 => ?_) (fun hc16 => ?_)
   ·
    have hc16 := of_decide_eq_true hc16
    refine Lyg (y_fieldAddr (hu := by exact Tryz.runUnderlying145) (hs := by exact Tryz.sizeOf3)) ?_
    refine Lyg (y_load (ha := by exact Tryz.isAgg3)) ?_
    refine Lyg y_leq ?_
    refine Ly y_pick_true ?_
    refine Ly y_move ?_
    refine WL.split (d := 21) (by rfl) (fun hc21 => ?_) (fun hc21 => ?_)
    ·
     have hc21 := of_decide_eq_true hc21
     refine Lyg (y_fieldAddr (hu := by exact Tryz.runUnderlying145) (hs := by exact Tryz.sizeOf3)) ?_
     refine Lyg (y_load (ha := by exact Tryz.isAgg3)) ?_
     refine Lyg (y_fieldAddr (hu := by exact Tryz.runUnderlying145) (hs := by exact Tryz.sizeOf3)) ?_
     refine Lyg (y_load (ha := by exact Tryz.isAgg3)) ?_
     refine Lyg y_sub ?_
     refine Lyg y_leq ?_
     refine Ly y_pick_true ?_
     refine Ly y_assign ?_
     refine WL.done ?_
     refine WK.ret ?_
     repeat (first | refine RQ.block ?_ | refine RQ.then_ ?_)
     refine RQ.body (results1 (by rfl) (by rfl)) (fun w s => ?_)
     refine ⟨(), trivial, ?_, Sat.drop (l := [_]) s⟩
     rw [show decide (okLot x) = decide (x.at_ ≤ 1099511627776 - x.n) from decide_eq_decide.2 ⟨fun h => h.2.2.2.2, fun h => ⟨by omega, by omega, by omega, by omega, h⟩⟩]
    ·
     have hc21 := of_decide_eq_false hc21
     refine Lz ?_
     refine Lz ?_
     refine Lz ?_
     refine Lz ?_
     refine Lz ?_
     refine Lz ?_
     refine Ly y_pick_false ?_
     refine Ly y_assign ?_
     refine WL.done ?_
     refine WK.ret ?_
     repeat (first | refine RQ.block ?_ | refine RQ.then_ ?_)
     refine RQ.body (results1 (by rfl) (by rfl)) (fun w s => ?_)
     refine ⟨(), trivial, ?_, Sat.drop (l := [_]) s⟩
     rw [decide_eq_false (fun h : okLot x => by unfold okLot at h; omega)]
   ·
    have hc16 := of_decide_eq_false hc16
    refine Lz ?_
    refine Lz ?_
    refine Lz ?_
    refine Ly y_pick_false ?_
    refine Ly y_move ?_
    refine Lz ?_
    refine Lz ?_
    refine Lz ?_
    refine Lz ?_
    refine Lz ?_
    refine Lz ?_
    refine Ly y_pick_false ?_
    refine Ly y_assign ?_
    refine WL.done ?_
    refine WK.ret ?_
    repeat (first | refine RQ.block ?_ | refine RQ.then_ ?_)
    refine RQ.body (results1 (by rfl) (by rfl)) (fun w s => ?_)
    refine ⟨(), trivial, ?_, Sat.drop (l := [_]) s⟩
    rw [decide_eq_false (fun h : okLot x => by unfold okLot at h; omega)]
  ·
   have hc11 := of_decide_eq_false hc11
   refine Lz ?_
   refine Lz ?_
   refine Lz ?_
   refine Ly y_pick_false ?_
   refine Ly y_move ?_
   refine Lz ?_
   refine Lz ?_
   refine Lz ?_
   refine Ly y_pick_false ?_
   refine Ly y_move ?_
   refine Lz ?_
   refine Lz ?_
   refine Lz ?_
   refine Lz ?_
   refine Lz ?_
   refine Lz ?_
   refine Ly y_pick_false ?_
   refine Ly y_assign ?_
   refine WL.done ?_
   refine WK.ret ?_
   repeat (first | refine RQ.block ?_ | refine RQ.then_ ?_)
   refine RQ.body (results1 (by rfl) (by rfl)) (fun w s => ?_)
   refine ⟨(), trivial, ?_, Sat.drop (l := [_]) s⟩
   rw [decide_eq_false (fun h : okLot x => by unfold okLot at h; omega)]
 ·
  have hc6 := of_decide_eq_false hc6
  refine Lz ?_
  refine Lz ?_
  refine Lz ?_
  refine Ly y_pick_false ?_
  refine Ly y_move ?_
  refine Lz ?_
  refine Lz ?_
  refine Lz ?_
  refine Ly y_pick_false ?_
  refine Ly y_move ?_
  refine Lz ?_
  refine Lz ?_
  refine Lz ?_
  refine Ly y_pick_false ?_
  refine Ly y_move ?_
  refine Lz ?_
  refine Lz ?_
  refine Lz ?_
  refine Lz ?_
  refine Lz ?_
  refine Lz ?_
  refine Ly y_pick_false ?_
  refine Ly y_assign ?_
  refine WL.done ?_
  refine WK.ret ?_
  repeat (first | refine RQ.block ?_ | refine RQ.then_ ?_)
  refine RQ.body (results1 (by rfl) (by rfl)) (fun w s => ?_)
  refine ⟨(), trivial, ?_, Sat.drop (l := [_]) s⟩
  rw [decide_eq_false (fun h : okLot x => by unfold okLot at h; omega)]
set_option maxRecDepth 20000 in
set_option maxHeartbeats 1000000 in
theorem validL1_spec (x : LotM) :
  Triple Tryz.prog 99 #[.agg #[.int .i64 x.flow, .int .i64 x.at_, .int .i64 x.n]] [] (Unit) (fun _ => True) (fun _ => .bool (!decide (okLot x))) (fun _ => []) := by
 refine Triple.of_body (args := [.agg #[.int .i64 x.flow, .int .i64 x.at_, .int .i64 x.n]]) Tryz.func99 rfl Tryz.ntmps99 (by simp) (fun g F => ?_)
 dsimp only [numb, List.cons_append, List.nil_append]
 refine WK.seq ?_
 refine WK.region ?_
 refine Le e_box ?_
 rintro b1 -
 try dsimp only
 refine Ly y_assign ?_
 refine WL.done ?_
 refine WK.seq ?_
 refine WK.region ?_
 refine Ly (y_loadA (ha := by exact Tryz.isAgg145) (hk := by exact Tryz.sizeOf145)) ?_
 refine Le (e_call (by exact Tryz.call100) (t := possibleL_spec x)) ?_
 rintro _ -
 try dsimp only
 refine Ly y_not ?_
 refine Ly y_assign ?_
 refine WL.done ?_
 refine WK.ret ?_
 repeat (first | refine RQ.block ?_ | refine RQ.then_ ?_)
 refine RQ.body (results1 (by rfl) (by rfl)) (fun w s => ?_)
 exact ⟨(), trivial, rfl, Sat.drop (l := [_]) s⟩
theorem validL1_pred : PredF Tryz.prog 99 [] (pack []) (fun x => Value.agg (lotC x).toArray) (fun _ => True) (fun x => !decide (okLot x)) := ⟨Tryz.call99, fun x _ => (validL1_spec x).withX [pack []]⟩
set_option maxRecDepth 20000 in
set_option maxHeartbeats 1000000 in
theorem indexFunc_lot (f : FuncId) (caps : List Value) (X : HProp) (pr : LotM → Bool) (S : LotM → Prop) (hp : PredF Tryz.prog f caps X (fun x => Value.agg (lotC x).toArray) S pr) (p : Bool) (ad : Option Addr) (len cap : Nat) (l : List LotM) (hlen : len ≤ 1000000) (hS : ∀ x ∈ l, S x) :
  Triple Tryz.prog 141 #[.slice ad len cap, .func (.func f) #[] caps.toArray] [sl p 145 3 ad len cap (flat lotC l), X] (Unit) (fun _ => True) (fun _ => .int .i64 (idxM pr l)) (fun _ => [sl p 145 3 ad len cap (flat lotC l), X]) := by
 refine Triple.of_body (args := [.slice ad len cap, .func (.func f) #[] caps.toArray]) Tryz.func141 rfl Tryz.ntmps141 (by simp) (fun g F => ?_)
 dsimp only [numb, List.cons_append, List.nil_append]
 refine WK.know (fun w s => Sat.slLen (s.sel1 (A := sl p 145 3 ad len cap (flat lotC l)) (by repeat (first | exact .here | apply Sel.there)))) (fun hkn => ?_)
 obtain ⟨n1, -⟩ := hkn
 rw [flat_len lotC_len] at n1
 replace n1 : l.length = _ := Nat.eq_of_mul_eq_mul_right (by omega) n1
 refine WK.seq ?_
 refine WK.region ?_
 refine Ly y_assign ?_
 refine WL.done ?_
 refine WK.seq ?_
 refine WK.seq ?_
 refine WK.region ?_
 refine Ly y_move ?_
 refine Ly (y_len (hu := by exact Tryz.runUnderlying57)) ?_
 refine Ly y_move ?_
 refine WL.done ?_
 refine WK.block ?_
 refine Kloop (ι := Nat) (fun i => i ≤ len ∧ ∀ (j : Nat) (y : LotM), j < i → l[j]? = some y → pr y = false) (fun i => [(0, .slice ad len cap), (1, .func (.func f) #[] caps.toArray), (6, .slice ad len cap), (7, .int .i64 (len : Int)), (8, .int .i64 (i : Int))]) (fun _ => sl p 145 3 ad len cap (flat lotC l) :: X :: F) (fun i => len - i) (0) (⟨Nat.zero_le _, fun j y h => absurd h (Nat.not_lt_zero _)⟩) (round := ?_)
 rintro i ⟨hi, hno⟩ N hN
 refine WK.seq ?_
 refine WK.region ?_
 refine Ly y_lss ?_
 refine WL.done ?_
 refine WK.seq ?_
 refine Kcond (ht := fun hc9 => ?_) (hf := fun hc9 => ?_)
 ·
  have hc9 := of_decide_eq_true hc9
  obtain ⟨x, hx⟩ : ∃ x, l[i]? = some x := ⟨_, List.getElem?_eq_getElem (by omega)⟩
  refine WK.skip ?_
  refine WK.seq ?_
  refine WK.block ?_
  refine WK.seq ?_
  refine WK.region ?_
  refine Ly y_move ?_
  refine Ly y_assign ?_
  refine WL.done ?_
  refine WK.seq ?_
  refine WK.region ?_
  refine Ly y_move ?_
  refine Ly y_move ?_
  refine Ly y_move ?_
  refine Ly (y_indexAddrS (hu := by exact Tryz.runUnderlying57) (hz := by exact Tryz.sizeOf145) (j := i) (hi := by first | rfl | omega) (hj' := by omega) (hj := by omega)) ?_
  refine Ly (y_loadSA (ha := by exact Tryz.isAgg145) (hm := by exact Tryz.sizeOf145) (hv := by exact flat_cells lotC_len hx)) ?_
  refine Le (e_callV (f := f) (hc := hp.call) (he := by rfl) (t := hp.spec x (hS x (List.mem_of_getElem? hx)))) ?_
  rintro _ -
  try dsimp only
  refine WL.done ?_
  refine Kcond (ht := fun hc16 => ?_) (hf := fun hc16 => ?_)
  ·
   refine WK.seq ?_
   refine WK.region ?_
   refine Ly y_move ?_
   refine Ly y_assign ?_
   refine WL.done ?_
   refine WK.ret ?_
   repeat (first | refine RQ.block ?_ | refine RQ.then_ ?_)
   refine RQ.body (results1 (by rfl) (by rfl)) (fun w s => ?_)
   refine ⟨(), trivial, ?_, s.toCs (by repeat (first | exact SelL.nil | exact SelL.self | apply SelL.cons | exact Sel.here | apply Sel.there | apply SelL.skip))⟩
   rw [idxM_hit hx hc16 hno]
  ·
   refine WK.skip ?_
   refine WK.endBlock ?_
   refine WK.region ?_
   refine Ly y_add ?_
   refine Ly y_move ?_
   refine WL.done ?_
   refine Knext hN (i + 1) ⟨by omega, fun j y hj hy => ?_⟩ (by omega)
   by_cases hji : j = i
   · subst hji
     cases hx.symm.trans hy
     simpa using hc16
   · exact hno j y (by omega) hy
 ·
  have hc9 := of_decide_eq_false hc9
  refine WK.exit ?_
  repeat (first | refine XQ.then_ ?_ | refine XQ.block (by rfl) ?_)
  refine XQ.here ?_
  refine WK.seq ?_
  refine WK.region ?_
  refine Ly y_assign ?_
  refine WL.done ?_
  refine WK.ret ?_
  repeat (first | refine RQ.block ?_ | refine RQ.then_ ?_)
  refine RQ.body (results1 (by rfl) (by rfl)) (fun w s => ?_)
  refine ⟨(), trivial, ?_, s.toCs (by repeat (first | exact SelL.nil | exact SelL.self | apply SelL.cons | exact Sel.here | apply Sel.there | apply SelL.skip))⟩
  rw [idxM_none (fun j y hy => hno j y (by have := (List.getElem?_eq_some_iff.1 hy).1; omega) hy)]
set_option maxRecDepth 20000 in
set_option maxHeartbeats 1000000 in
theorem containsFunc_lot (f : FuncId) (caps : List Value) (X : HProp) (pr : LotM → Bool) (S : LotM → Prop) (hp : PredF Tryz.prog f caps X (fun x => Value.agg (lotC x).toArray) S pr) (p : Bool) (ad : Option Addr) (len cap : Nat) (l : List LotM) (hlen : len ≤ 1000000) (hS : ∀ x ∈ l, S x) :
  Triple Tryz.prog 98 #[.slice ad len cap, .func (.func f) #[] caps.toArray] [sl p 145 3 ad len cap (flat lotC l), X] (Unit) (fun _ => True) (fun _ => .bool (l.any pr)) (fun _ => [sl p 145 3 ad len cap (flat lotC l), X]) := by
 refine Triple.of_body (args := [.slice ad len cap, .func (.func f) #[] caps.toArray]) Tryz.func98 rfl Tryz.ntmps98 (by simp) (fun g F => ?_)
 dsimp only [numb, List.cons_append, List.nil_append]
 refine WK.seq ?_
 refine WK.region ?_
 refine Ly y_assign ?_
 refine WL.done ?_
 refine WK.seq ?_
 refine WK.region ?_
 refine Ly y_move ?_
 refine Ly y_move ?_
 refine Le (e_call (by exact Tryz.call141) (t := indexFunc_lot f caps X pr S hp p ad len cap l hlen hS)) ?_
 rintro _ -
 try dsimp only
 refine Ly y_geq ?_
 refine Ly y_assign ?_
 refine WL.done ?_
 refine WK.ret ?_
 repeat (first | refine RQ.block ?_ | refine RQ.then_ ?_)
 refine RQ.body (results1 (by rfl) (by rfl)) (fun w s => ?_)
 refine ⟨(), trivial, ?_, s.toCs (by repeat (first | exact SelL.nil | exact SelL.self | apply SelL.cons | exact Sel.here | apply Sel.there | apply SelL.skip))⟩
 rw [idxM_any]
set_option maxRecDepth 20000 in
set_option maxHeartbeats 1000000 in
theorem validL_spec (p : Bool) (ad : Option Addr) (len cap : Nat) (l : List LotM) (hlen : len ≤ 1000000) :
  Triple Tryz.prog 72 #[.slice ad len cap] [sl p 145 3 ad len cap (flat lotC l)] (Unit) (fun _ => True) (fun _ => .bool (decide (VL l))) (fun _ => [sl p 145 3 ad len cap (flat lotC l)]) := by
 refine Triple.of_body (args := [.slice ad len cap]) Tryz.func72 rfl Tryz.ntmps72 (by simp) (fun g F => ?_)
 dsimp only [numb, List.cons_append, List.nil_append]
 refine WK.know (fun w s => Sat.slLen (s.sel1 (A := sl p 145 3 ad len cap (flat lotC l)) (by repeat (first | exact .here | apply Sel.there)))) (fun hkn => ?_)
 obtain ⟨n1, -⟩ := hkn
 rw [flat_len lotC_len] at n1
 replace n1 : l.length = _ := Nat.eq_of_mul_eq_mul_right (by omega) n1
 refine WK.seq ?_
 refine WK.region ?_
 refine Ly y_assign ?_
 refine WL.done ?_
 refine WK.seq ?_
 refine WK.region ?_
 refine Ly y_move ?_
 refine Ly (y_len (hu := by exact Tryz.runUnderlying57)) ?_
 refine Ly y_leq ?_
 refine Ly y_move ?_
 refine WL.split (d := 6) (by rfl) (fun hc6 => ?_) (fun hc6 => ?_)
 ·
  have hc6 := of_decide_eq_true hc6
  refine Lyg y_move ?_
  refine WL.sat (fun w s => Sat.pack (l := []) s) ?_
  refine Leg (e_call (by exact Tryz.call98) (t := containsFunc_lot _ [] (pack []) _ (fun _ => True) validL1_pred p ad len cap l hlen (fun _ _ => trivial))) ?_
  rintro _ -
  try dsimp only
  refine Lyg y_not ?_
  refine Ly y_pick_true ?_
  refine Ly y_assign ?_
  refine WL.done ?_
  refine WK.ret ?_
  repeat (first | refine RQ.block ?_ | refine RQ.then_ ?_)
  refine RQ.body (results1 (by rfl) (by rfl)) (fun w s => ?_)
  refine ⟨(), trivial, ?_, s.toCs (by repeat (first | exact SelL.nil | exact SelL.self | apply SelL.cons | exact Sel.here | apply Sel.there | apply SelL.skip))⟩
  rw [VL_dec (by omega)]
 ·
  have hc6 := of_decide_eq_false hc6
  refine Lz ?_
  refine WL.sat (fun w s => Sat.pack (l := []) s) ?_
  refine Lz ?_
  refine Lz ?_
  refine Ly y_pick_false ?_
  refine Ly y_assign ?_
  refine WL.done ?_
  refine WK.ret ?_
  repeat (first | refine RQ.block ?_ | refine RQ.then_ ?_)
  refine RQ.body (results1 (by rfl) (by rfl)) (fun w s => ?_)
  refine ⟨(), trivial, ?_, s.toCs (by repeat (first | exact SelL.nil | exact SelL.self | apply SelL.cons | exact Sel.here | apply Sel.there | apply SelL.skip))⟩
  rw [decide_eq_false (fun h : VL l => by have := h.1; omega)]
set_option maxRecDepth 20000 in
set_option maxHeartbeats 1000000 in
theorem totalL_spec (p : Bool) (ad : Option Addr) (len cap : Nat) (l : List LotM) (hlen : len ≤ 1000000) (hv : VL l) :
  Triple Tryz.prog 56 #[.slice ad len cap] [sl p 145 3 ad len cap (flat lotC l)] (Unit) (fun _ => True) (fun _ => .int .i64 (totM l)) (fun _ => [sl p 145 3 ad len cap (flat lotC l)]) := by
 refine Triple.of_body (args := [.slice ad len cap]) Tryz.func56 rfl Tryz.ntmps56 (by simp) (fun g F => ?_)
 dsimp only [numb, List.cons_append, List.nil_append]
 refine WK.know (fun w s => Sat.slLen (s.sel1 (A := sl p 145 3 ad len cap (flat lotC l)) (by repeat (first | exact .here | apply Sel.there)))) (fun hkn => ?_)
 obtain ⟨n1, -⟩ := hkn
 rw [flat_len lotC_len] at n1
 replace n1 : l.length = _ := Nat.eq_of_mul_eq_mul_right (by omega) n1
 refine WK.seq ?_
 refine WK.region ?_
 refine Ly y_assign ?_
 refine WL.done ?_
 refine WK.seq ?_
 refine WK.region ?_
 refine Ly y_assign ?_
 refine WL.done ?_
 refine WK.seq ?_
 refine WK.seq ?_
 refine WK.region ?_
 refine Ly y_move ?_
 refine Ly (y_len (hu := by exact Tryz.runUnderlying57)) ?_
 refine Ly y_move ?_
 refine WL.done ?_
 refine WK.block ?_
 refine Kloop (ι := Nat) (fun i => i ≤ len) (fun i => [(0, .slice ad len cap), (3, .int .i64 (totM (l.take i))), (6, .slice ad len cap), (7, .int .i64 (len : Int)), (8, .int .i64 (i : Int))]) (fun _ => sl p 145 3 ad len cap (flat lotC l) :: F) (fun i => len - i) (0) (Nat.zero_le _) (round := ?_)
 rintro i hi N hN
 refine WK.seq ?_
 refine WK.region ?_
 refine Ly y_lss ?_
 refine WL.done ?_
 refine WK.seq ?_
 refine Kcond (ht := fun hc9 => ?_) (hf := fun hc9 => ?_)
 ·
  have hc9 := of_decide_eq_true hc9
  obtain ⟨x, hx⟩ : ∃ x, l[i]? = some x := ⟨_, List.getElem?_eq_getElem (by omega)⟩
  have hok := hv.2 x (List.mem_of_getElem? hx)
  unfold okLot at hok
  have hb := totM_take hv i
  refine WK.skip ?_
  refine WK.seq ?_
  refine WK.block ?_
  refine WK.seq ?_
  refine WK.region ?_
  refine Ly (y_indexAddrS (hu := by exact Tryz.runUnderlying57) (hz := by exact Tryz.sizeOf145) (j := i) (hi := by first | rfl | omega) (hj' := by omega) (hj := by omega)) ?_
  refine Ly (y_loadSA (ha := by exact Tryz.isAgg145) (hm := by exact Tryz.sizeOf145) (hv := by exact flat_cells lotC_len hx)) ?_
  refine Le (e_alloc (by exact Tryz.zeroValue145)) ?_
  rintro b5 -
  try dsimp only
  refine Le0 (e_store (hk := by exact Tryz.sizeOf145) (h1 := by rfl)) ?_
  rintro _ -
  try dsimp only
  refine WL.done ?_
  refine WK.region ?_
  refine Ly y_move ?_
  refine Ly (y_fieldAddr (hu := by exact Tryz.runUnderlying145) (hs := by exact Tryz.sizeOf3)) ?_
  refine Ly (y_load (ha := by exact Tryz.isAgg3)) ?_
  refine Ly y_add ?_
  refine Ly y_assign ?_
  refine WL.done ?_
  refine WK.endBlock ?_
  refine WK.region ?_
  refine Ly y_add ?_
  refine Ly y_move ?_
  refine WL.done ?_
  refine Knext hN (i + 1) (by omega) (by omega) (hK := by refine KK.cons rfl (KK.cons ?_ (KK.cons rfl (KK.cons rfl (KK.cons rfl KK.nil)))); rw [totM_more hx]; rfl)
 ·
  have hc9 := of_decide_eq_false hc9
  obtain rfl : i = len := by omega
  rw [List.take_of_length_le (by omega)] at *
  refine WK.exit ?_
  repeat (first | refine XQ.then_ ?_ | refine XQ.block (by rfl) ?_)
  refine XQ.here ?_
  refine WK.seq ?_
  refine WK.seq ?_
  refine WK.region ?_
  refine Ly y_move ?_
  refine Le (e_call (by exact Tryz.call72) (t := validL_spec p ad i cap l hlen)) ?_
  rintro _ -
  try dsimp only
  refine Ly y_not ?_
  refine WL.done ?_
  refine Kcond (ht := fun hc19 => ?_) (hf := fun hc19 => ?_)
  ·
   simp [hv] at hc19
  ·
   refine WK.skip ?_
   refine WK.seq ?_
   refine WK.region ?_
   refine Ly y_move ?_
   refine Ly y_assign ?_
   refine WL.done ?_
   refine WK.ret ?_
   repeat (first | refine RQ.block ?_ | refine RQ.then_ ?_)
   refine RQ.body (results1 (by rfl) (by rfl)) (fun w s => ?_)
   exact ⟨(), trivial, rfl, s.toCs (by repeat (first | exact SelL.nil | exact SelL.self | apply SelL.cons | exact Sel.here | apply Sel.there | apply SelL.skip))⟩
set_option maxRecDepth 20000 in
set_option maxHeartbeats 1000000 in
theorem clone_lot (p : Bool) (ad : Option Addr) (len cap : Nat) (l : List LotM) (hlen : len ≤ 1000000) :
  Triple Tryz.prog 71 #[.slice ad len cap] [sl p 145 3 ad len cap (flat lotC l)] (Option Addr × Nat) (fun x => ad = none → x = (none, 0)) (fun x => .slice x.1 len x.2) (fun x => [sl true 145 3 x.1 len x.2 (flat lotC l), sl p 145 3 ad len cap (flat lotC l)]) := by
 refine Triple.of_body (args := [.slice ad len cap]) Tryz.func71 rfl Tryz.ntmps71 (by simp) (fun g F => ?_)
 dsimp only [numb, List.cons_append, List.nil_append]
 refine WK.seq ?_
 refine WK.region ?_
 refine Ly y_assign ?_
 refine WL.done ?_
 refine WK.seq ?_
 refine WK.seq ?_
 refine WK.region ?_
 refine Ly y_move ?_
 refine Ly (y_eqlNilS (hu := by exact Tryz.runUnderlying57)) ?_
 refine WL.done ?_
 refine Kcond (ht := fun hc4 => ?_) (hf := fun hc4 => ?_)
 ·
  obtain rfl : ad = none := by cases ad <;> simp_all
  refine WK.know (fun w s => Sat.slNone (s.sel1 (A := sl p 145 3 none len cap (flat lotC l)) (by repeat (first | exact .here | apply Sel.there)))) (fun hkn => ?_)
  obtain ⟨rfl, hxs⟩ := hkn
  refine WK.seq ?_
  refine WK.region ?_
  refine Ly y_assign ?_
  refine WL.done ?_
  refine WK.ret ?_
  repeat (first | refine RQ.block ?_ | refine RQ.then_ ?_)
  refine RQ.body (results1 (by rfl) (by rfl)) (fun w s => ?_)
  refine ⟨(none, 0), fun _ => rfl, rfl, ?_⟩
  have s2 := Sat.nilSl s true 145 3
  rw [hxs] at s2 ⊢
  exact s2.toCs (by repeat (first | exact SelL.nil | exact SelL.self | apply SelL.cons | exact Sel.here | apply Sel.there | apply SelL.skip))
 ·
  have hne : ad ≠ none := by rintro rfl; simp at hc4
  refine WK.skip ?_
  refine WK.seq ?_
  refine WK.region ?_
  refine Le (e_mkSlice0 (by exact Tryz.runUnderlying57) (by exact Tryz.sizeOf145)) ?_
  rintro b5 -
  try dsimp only
  refine Ly y_move ?_
  refine Le (e_append (et := elem57) (htx := by exact Tryz.underlying57) (hb := by omega) (hm := by omega)) ?_
  rintro ⟨ad7, cap7⟩ -
  try dsimp only
  refine Ly y_assign ?_
  refine WL.done ?_
  refine WK.ret ?_
  repeat (first | refine RQ.block ?_ | refine RQ.then_ ?_)
  refine RQ.body (results1 (by rfl) (by rfl)) (fun w s => ?_)
  refine ⟨(ad7, cap7), fun h => absurd h hne, by rw [Nat.zero_add], ?_⟩
  rw [Nat.zero_add, List.nil_append] at s
  exact s.toCs (by repeat (first | exact SelL.nil | exact SelL.self | apply SelL.cons | exact Sel.here | apply Sel.there | apply SelL.skip))
set_option maxRecDepth 20000 in
set_option maxHeartbeats 1000000 in
theorem endL_spec (x : LotM) (hx : okLot x) :
  Triple Tryz.prog 175 #[.agg #[.int .i64 x.flow, .int .i64 x.at_, .int .i64 x.n]] [] (Unit) (fun _ => True) (fun _ => .int .i64 (x.at_ + x.n)) (fun _ => []) := by
 refine Triple.of_body (args := [.agg #[.int .i64 x.flow, .int .i64 x.at_, .int .i64 x.n]]) Tryz.func175 rfl Tryz.ntmps175 (by simp) (fun g F => ?_)
 dsimp only [numb, List.cons_append, List.nil_append]
 unfold okLot at hx
 refine WK.seq ?_
 refine WK.region ?_
 refine Le e_box ?_
 rintro b1 -
 try dsimp only
 refine Ly y_assign ?_
 refine WL.done ?_
 refine WK.seq ?_
 refine WK.region ?_
 refine Ly (y_fieldAddr (hu := by exact Tryz.runUnderlying145) (hs := by exact Tryz.sizeOf3)) ?_
 refine Ly (y_load (ha := by exact Tryz.isAgg3)) ?_
 refine Ly (y_fieldAddr (hu := by exact Tryz.runUnderlying145) (hs := by exact Tryz.sizeOf3)) ?_
 refine Ly (y_load (ha := by exact Tryz.isAgg3)) ?_
 refine Ly y_add ?_
 refine Ly y_assign ?_
 refine WL.done ?_
 refine WK.ret ?_
 repeat (first | refine RQ.block ?_ | refine RQ.then_ ?_)
 refine RQ.body (results1 (by rfl) (by rfl)) (fun w s => ?_)
 exact ⟨(), trivial, rfl, Sat.drop (l := [_]) s⟩
set_option maxRecDepth 20000 in
set_option maxHeartbeats 2000000 in
theorem joinL_spec (ad : Option Addr) (len cap : Nat) (l : List LotM) (hlen : len ≤ 10000) (y : LotM) (hl : ∀ x ∈ l, okLot x) (hy : y.at_ = 0) :
  Triple Tryz.prog 167 #[.slice ad len cap, .agg #[.int .i64 y.flow, .int .i64 y.at_, .int .i64 y.n]] [sl true 145 3 ad len cap (flat lotC l)] (Option Addr × Nat) (fun _ => True) (fun x => .slice x.1 (len + 1) x.2) (fun x => [sl true 145 3 x.1 (len + 1) x.2 (flat lotC (l ++ [y]))]) := by
 refine Triple.of_body (args := [.slice ad len cap, .agg #[.int .i64 y.flow, .int .i64 y.at_, .int .i64 y.n]]) Tryz.func167 rfl Tryz.ntmps167 (by simp) (fun g F => ?_)
 dsimp only [numb, List.cons_append, List.nil_append]
 refine WK.know (fun w s => Sat.slLen (s.sel1 (A := sl true 145 3 ad len cap (flat lotC l)) (by repeat (first | exact .here | apply Sel.there)))) (fun hkn => ?_)
 obtain ⟨n1, -⟩ := hkn
 rw [flat_len lotC_len] at n1
 replace n1 : l.length = _ := Nat.eq_of_mul_eq_mul_right (by omega) n1
 refine WK.seq ?_
 refine WK.region ?_
 refine Le e_box ?_
 rintro b3 -
 try dsimp only
 refine Ly y_assign ?_
 refine WL.done ?_
 refine WK.seq ?_
 refine WK.seq ?_
 refine WK.region ?_
 refine Ly y_move ?_
 refine Ly (y_len (hu := by exact Tryz.runUnderlying57)) ?_
 refine Ly y_assign ?_
 refine WL.done ?_
 refine WK.seq ?_
 refine Kdr (l := [(0, 0), (1, 0), (2, 0), (3, 0), (4, 0), (5, 0), (6, 0), (7, 0), (8, 0), (9, 0), (10, 0), (11, 0), (12, 0), (13, 0), (16, 0), (17, 0), (18, 0), (19, 0), (20, 0), (14, 1), (15, 0), (21, 0), (22, 0)]) (Cs := [row true b3 145 [.int .i64 y.flow, .int .i64 y.at_, .int .i64 y.n], sl true 145 3 ad len cap (flat lotC l)]) (h := ?_)
 refine Oy (y := y_move) (h := ?_)
 refine Oy (y := y_gtr) (h := ?_)
 refine Oy (y := y_move) (h := ?_)
 refine WO.split (d := 10) (by rfl) (fun hc10 => ?_) (fun hc10 => ?_)
 ·
  have hc10 := of_decide_eq_true hc10
  obtain ⟨z, hz⟩ : ∃ x, l[len - 1]? = some x := ⟨_, List.getElem?_eq_getElem (by omega)⟩
  have hok := hl z (List.mem_of_getElem? hz)
  have hok2 := hok
  unfold okLot at hok2
  refine Oyg (y := y_move) (h := ?_)
  refine Oyg (y := y_move) (h := ?_)
  refine Oyg (y := y_sub) (h := ?_)
  refine Oyg (y := y_indexAddrS (hu := by exact Tryz.runUnderlying57) (hz := by exact Tryz.sizeOf145) (j := len - 1) (hi := by first | rfl | omega) (hj' := by omega) (hj := by omega)) (h := ?_)
  refine Oyg (y := y_fieldAddrS (hu := by exact Tryz.runUnderlying145) (hs := by exact Tryz.sizeOf3)) (h := ?_)
  refine Oyg (y := y_loadS (ha := by exact Tryz.isAgg3) (hv := by exact flat_get lotC_len hz (j := 0) rfl (by rfl))) (h := ?_)
  refine Oyg (y := y_move) (h := ?_)
  refine Oyg (y := y_move) (h := ?_)
  refine Oyg (y := y_sub) (h := ?_)
  refine Oyg (y := y_indexAddrS (hu := by exact Tryz.runUnderlying57) (hz := by exact Tryz.sizeOf145) (j := len - 1) (hi := by first | rfl | omega) (hj' := by omega) (hj := by omega)) (h := ?_)
  refine Oyg (y := y_loadSA (ha := by exact Tryz.isAgg145) (hm := by exact Tryz.sizeOf145) (hv := by exact flat_cells lotC_len hz)) (h := ?_)
  refine Oyg (y := y_fieldAddr (hu := by exact Tryz.runUnderlying145) (hs := by exact Tryz.sizeOf3)) (h := ?_)
  refine Oyg (y := y_load (ha := by exact Tryz.isAgg3)) (h := ?_)
  refine Oyg (y := y_fieldAddr (hu := by exact Tryz.runUnderlying145) (hs := by exact Tryz.sizeOf3)) (h := ?_)
  refine Oyg (y := y_load (ha := by exact Tryz.isAgg3)) (h := ?_)
  refine Oyg (y := y_build (hz := by exact Tryz.zeroValue145) (hu := by exact Tryz.runUnderlying145) (hp := by exact fun w => places145 w Tryz.underlying145) (hne := by first | decide | simp)) (h := ?_)
  refine Oeg (e := e_call (by exact Tryz.call175) (t := endL_spec z hok)) (h := ?_)
  rintro _ -
  try dsimp only
  refine Oyg (y := y_build (hz := by exact Tryz.zeroValue145) (hu := by exact Tryz.runUnderlying145) (hp := by exact fun w => places145 w Tryz.underlying145) (hne := by first | decide | simp)) (h := ?_)
  refine Oyg (y := yld_eqlS3 (by rfl) (by rfl) (by exact Tryz.runUnderlying145) (by kernel_rfl) (by kernel_rfl) (by decide) (by decide) (by decide) (by rfl) (by rfl) (by rfl) (by exact Tryz.runUnderlying3) (by exact Tryz.runUnderlying3) (by exact Tryz.runUnderlying3) (by exact Tryz.isAgg3) (by exact Tryz.isAgg3) (by exact Tryz.isAgg3)) (h := ?_)
  refine Oy (y := y_pick_true) (h := ?_)
  refine WO.done ?_
  refine Kcond (ht := fun hc30 => ?_) (hf := fun hc30 => ?_)
  ·
   have hc30 := of_decide_eq_true hc30
   omega
  ·
   have hc30 := of_decide_eq_false hc30
   refine WK.skip ?_
   refine WK.seq ?_
   refine WK.region ?_
   refine Ly y_move ?_
   refine Ly (y_loadA (ha := by exact Tryz.isAgg145) (hk := by exact Tryz.sizeOf145)) ?_
   refine Le (e_mkSlice1 (hu := by exact Tryz.runUnderlying57) (hk := by exact Tryz.sizeOf145) (hz := by exact Tryz.zeroValue145) (hk0 := by rfl) (hb := by decide) (h1 := by rfl)) ?_
   rintro b45 -
   try dsimp only
   refine Le (e_append (et := elem57) (htx := by exact Tryz.underlying57) (hb := by omega) (hm := by omega)) ?_
   rintro ⟨ad46, cap46⟩ -
   try dsimp only
   refine Ly y_assign ?_
   refine WL.done ?_
   refine WK.ret ?_
   repeat (first | refine RQ.block ?_ | refine RQ.then_ ?_)
   refine RQ.body (results1 (by rfl) (by rfl)) (fun w s => ?_)
   refine ⟨(ad46, cap46), trivial, rfl, ?_⟩
   rw [flat_app, flat_one]
   exact s.toCs (by repeat (first | exact SelL.nil | exact SelL.self | apply SelL.cons | exact Sel.here | apply Sel.there | apply SelL.skip))
 ·
  have hc10 := of_decide_eq_false hc10
  refine Oz (h := ?_)
  refine Oz (h := ?_)
  refine Oz (h := ?_)
  refine Oz (h := ?_)
  refine Oz (h := ?_)
  refine Oz (h := ?_)
  refine Oz (h := ?_)
  refine Oz (h := ?_)
  refine Oz (h := ?_)
  refine Oz (h := ?_)
  refine Oz (h := ?_)
  refine Oz (h := ?_)
  refine Oz (h := ?_)
  refine Oz (h := ?_)
  refine Oz (h := ?_)
  refine Oz (h := ?_)
  refine OzE (h := ?_)
  refine Oz (h := ?_)
  refine Oz (h := ?_)
  refine Oy (y := y_pick_false) (h := ?_)
  refine WO.done ?_
  refine Kcond (ht := fun h => by cases h) (hf := fun _ => ?_)
  refine WK.skip ?_
  refine WK.seq ?_
  refine WK.region ?_
  refine Ly y_move ?_
  refine Ly (y_loadA (ha := by exact Tryz.isAgg145) (hk := by exact Tryz.sizeOf145)) ?_
  refine Le (e_mkSlice1 (hu := by exact Tryz.runUnderlying57) (hk := by exact Tryz.sizeOf145) (hz := by exact Tryz.zeroValue145) (hk0 := by rfl) (hb := by decide) (h1 := by rfl)) ?_
  rintro b45 -
  try dsimp only
  refine Le (e_append (et := elem57) (htx := by exact Tryz.underlying57) (hb := by omega) (hm := by omega)) ?_
  rintro ⟨ad46, cap46⟩ -
  try dsimp only
  refine Ly y_assign ?_
  refine WL.done ?_
  refine WK.ret ?_
  repeat (first | refine RQ.block ?_ | refine RQ.then_ ?_)
  refine RQ.body (results1 (by rfl) (by rfl)) (fun w s => ?_)
  refine ⟨(ad46, cap46), trivial, rfl, ?_⟩
  rw [flat_app, flat_one]
  exact s.toCs (by repeat (first | exact SelL.nil | exact SelL.self | apply SelL.cons | exact Sel.here | apply Sel.there | apply SelL.skip))
set_option maxRecDepth 20000 in
set_option maxHeartbeats 2000000 in
theorem putL_spec (p : Bool) (ad : Option Addr) (len cap : Nat) (l : List LotM) (hlen : len ≤ 4000) (y : LotM) (hl : ∀ x ∈ l, okLot x) (hy : y.at_ = 0) (hok : okLot y) :
  Triple Tryz.prog 140 #[.slice ad len cap, .agg #[.int .i64 y.flow, .int .i64 y.at_, .int .i64 y.n]] [sl p 145 3 ad len cap (flat lotC l)] (Option Addr × Nat) (fun _ => True) (fun x => .slice x.1 (len + 1) x.2) (fun x => [sl true 145 3 x.1 (len + 1) x.2 (flat lotC (l ++ [y])), sl p 145 3 ad len cap (flat lotC l)]) := by
 refine Triple.of_body (args := [.slice ad len cap, .agg #[.int .i64 y.flow, .int .i64 y.at_, .int .i64 y.n]]) Tryz.func140 rfl Tryz.ntmps140 (by simp) (fun g F => ?_)
 dsimp only [numb, List.cons_append, List.nil_append]
 refine WK.know (fun w s => Sat.slLen (s.sel1 (A := sl p 145 3 ad len cap (flat lotC l)) (by repeat (first | exact .here | apply Sel.there)))) (fun hkn => ?_)
 obtain ⟨n1, -⟩ := hkn
 rw [flat_len lotC_len] at n1
 replace n1 : l.length = _ := Nat.eq_of_mul_eq_mul_right (by omega) n1
 have hv : VL l := ⟨by omega, hl⟩
 refine WK.seq ?_
 refine WK.region ?_
 refine Le e_box ?_
 rintro b3 -
 try dsimp only
 refine Ly y_assign ?_
 refine WL.done ?_
 refine WK.seq ?_
 refine WK.seq ?_
 refine WK.region ?_
 refine Ly y_move ?_
 refine Le (e_call (by exact Tryz.call72) (t := validL_spec p ad len cap l (by omega))) ?_
 rintro _ -
 try dsimp only
 refine Ly y_not ?_
 refine Ly y_move ?_
 refine WL.split (d := 8) (by rfl) (fun hc8 => ?_) (fun hc8 => ?_)
 ·
  simp [hv] at hc8
 ·
  refine Lyg (y_loadA (ha := by exact Tryz.isAgg145) (hk := by exact Tryz.sizeOf145)) ?_
  refine Leg (e_call (by exact Tryz.call100) (t := possibleL_spec y)) ?_
  rintro _ -
  try dsimp only
  refine Lyg y_not ?_
  refine Ly y_pick_false ?_
  refine WL.done ?_
  refine Kcond (ht := fun hc12 => ?_) (hf := fun hc12 => ?_)
  ·
   simp [hok] at hc12
  ·
   refine WK.skip ?_
   refine WK.seq ?_
   refine Kdr (l := [(0, 0), (2, 0), (1, 1), (3, 1), (4, 0)]) (Cs := [row true b3 145 [.int .i64 y.flow, .int .i64 y.at_, .int .i64 y.n]]) (h := ?_)
   refine Oy (y := y_move) (h := ?_)
   refine Oy (y := y_loadA (ha := by exact Tryz.isAgg145) (hk := by exact Tryz.sizeOf145)) (h := ?_)
   refine Oe (e := e_call (by exact Tryz.call71) (t := clone_lot p ad len cap l (by omega))) (h := ?_)
   rintro ⟨ad14, cap14⟩ -
   try dsimp only
   refine Oe (e := e_call (by exact Tryz.call167) (t := joinL_spec ad14 len cap14 l (by omega) y hl hy)) (h := ?_)
   rintro ⟨ad16, cap16⟩ -
   try dsimp only
   refine Oy (y := y_assign) (h := ?_)
   refine WO.done ?_
   refine WK.ret ?_
   repeat (first | refine RQ.block ?_ | refine RQ.then_ ?_)
   refine RQ.body (results1 (by rfl) (by rfl)) (fun w s => ?_)
   exact ⟨(ad16, cap16), trivial, rfl, s.toCs (by repeat (first | exact SelL.nil | exact SelL.self | apply SelL.cons | exact Sel.here | apply Sel.there | apply SelL.skip))⟩
end Go.Proofs.YtkakfmcjiabjjaaGreatDoor
