import Derived.Test.YtkakfmcjiabjjaaGreatDoorLedA
import Derived.Test.YtkakfmcjiabjjaaGreatDoorMoveA
namespace Go.Proofs.YtkakfmcjiabjjaaGreatDoor
set_option linter.unusedVariables false
set_option linter.unusedSimpArgs false
set_option linter.unusedSectionVars false
set_option linter.unnecessarySimpa false
open Go Go.Sep
attribute [local irreducible] row sl mapO held exL allR byt mapI slr mapK rangeK vec pack
/-- The cells of a draft of a spawn step. -/
def draftRow (q : Nat) (id : Int) (mv : Value) (sb : Nat) (ta : Option Addr) (tc : Nat) (fa : Option Addr) (nf fc ib gb : Nat) : List Value :=
  [.pointer (some ⟨q, 0, none⟩), .int .i64 id, .int .i64 0, .int .i64 0, .int .i64 0, .int .i64 0, .int .i64 (-1), .int .i64 0, mv, .map (some sb), .slice ta 4 tc, .slice fa nf fc, .map (some ib), .map (some gb)]
theorem plLaw : KeyLaw Tryz.prog 116 plE := KeyLaw.pair Tryz.runUnderlying116 (by kernel_rfl) (by decide) (by decide) rfl rfl Tryz.runUnderlying3 Tryz.runUnderlying3 Tryz.isAgg3 Tryz.isAgg3
theorem elem117 : ElemT Tryz.prog 117 141 11 120 := ⟨Tryz.underlying117, ⟨Tryz.t141, _, by kernel_rfl, rfl, rfl, rfl, rfl⟩⟩
theorem elem108 : ElemT Tryz.prog 108 62 7 72 := ⟨Tryz.underlying108, ⟨Tryz.t62, _, by kernel_rfl, rfl, rfl, rfl, rfl⟩⟩
theorem places116 (w : World) : ∀ {fs : Array Field}, Tryz.prog.underlying 116 = some (.struct fs) → Sem.run Tryz.prog (fs.mapM fun f => Prod.mk f.offset <$> sizeOf f.type) w = .ok #[(0, 1), (1, 1)] w := by
  intro fs h
  rw [Tryz.underlying116] at h
  cases h
  simp
theorem places122 (w : World) : ∀ {fs : Array Field}, Tryz.prog.underlying 122 = some (.struct fs) → Sem.run Tryz.prog (fs.mapM fun f => Prod.mk f.offset <$> sizeOf f.type) w = .ok #[(0, 1), (1, 1), (2, 7), (9, 1), (10, 1), (11, 1), (12, 1), (13, 1)] w := by
  intro fs h
  rw [Tryz.underlying122] at h
  cases h
  simp
theorem places141 (w : World) : ∀ {fs : Array Field}, Tryz.prog.underlying 141 = some (.struct fs) → Sem.run Tryz.prog (fs.mapM fun f => Prod.mk f.offset <$> sizeOf f.type) w = .ok #[(0, 1), (1, 1), (2, 1), (3, 1), (4, 1), (5, 1), (6, 1), (7, 1), (8, 1), (9, 1), (10, 1)] w := by
  intro fs h
  rw [Tryz.underlying141] at h
  cases h
  simp
set_option maxRecDepth 20000 in
set_option maxHeartbeats 2000000 in
theorem stack_spec (dq q : Nat) (id : Int) (mv : Value) (sbD : Nat) (ta : Option Addr) (tc : Nat) (fa : Option Addr) (nfD fc ibD gbD : Nat) (pl : Bool) (sh : Int) (nf ns : Nat) (W : LedW) (ms : List ((Int × Int) × Value)) (k : Int × Int) :
  Triple Tryz.prog 135 #[.pointer (some ⟨dq, 0, none⟩), .agg #[.int .i64 k.1, .int .i64 k.2]] [row true dq 122 (draftRow q id mv sbD ta tc fa nfD fc ibD gbD), row pl q 120 (ledRow sh nf ns W), mapK plE true sbD [], mapK plE true W.sb ms] (Unit) (fun _ => True) (fun _ => (kget ms k).getD (.slice none 0 0)) (fun _ => [row true dq 122 (draftRow q id mv sbD ta tc fa nfD fc ibD gbD), row pl q 120 (ledRow sh nf ns W), mapK plE true sbD [], mapK plE true W.sb ms]) := by
 refine Triple.of_body (args := [.pointer (some ⟨dq, 0, none⟩), .agg #[.int .i64 k.1, .int .i64 k.2]]) Tryz.func135 rfl Tryz.ntmps135 (by simp) (fun g F => ?_)
 dsimp only [numb, List.cons_append, List.nil_append]
 refine WK.seq ?_
 refine WK.region ?_
 refine Le e_box ?_
 rintro b3 -
 try dsimp only
 refine Ly y_assign ?_
 refine WL.done ?_
 refine WK.seq ?_
 refine WK.seq ?_
 refine KdrQ (l := [(0, 0), (1, 0), (2, 0), (3, 0), (4, 0), (5, 0), (6, 0), (7, 0), (8, 0), (9, 0), (10, 0)]) (h := ?_)
 refine Oy (y := y_move) (h := ?_)
 refine Oy (y := y_nilCheck) (h := ?_)
 refine Oy (y := y_fieldAddr (hu := by exact Tryz.runUnderlying122) (hs := by exact Tryz.sizeOf114)) (h := ?_)
 refine Oy (y := y_load (ha := by exact Tryz.isAgg114)) (h := ?_)
 refine Oy (y := y_loadA (ha := by exact Tryz.isAgg116) (hk := by exact Tryz.sizeOf116)) (h := ?_)
 refine Oy (y := y_lookupK (k := k) (hu := by exact Tryz.runUnderlying114) (L := plLaw) (hz := by exact Tryz.zeroValue57)) (h := ?_)
 refine Oy (y := y_move) (h := ?_)
 refine Oy (y := y_extract) (h := ?_)
 refine Oy (y := y_extract) (h := ?_)
 refine Oy (y := y_assign) (h := ?_)
 refine Oy (y := y_assign) (h := ?_)
 refine WO.done ?_
 refine WK.seq ?_
 refine WK.region ?_
 refine Ly y_move ?_
 refine WL.done ?_
 refine Kcond (ht := fun h => by cases h) (hf := fun _ => ?_)
 refine WK.skip ?_
 refine WK.seq ?_
 refine KdrQ (l := [(0, 0), (1, 0), (2, 0), (3, 0), (4, 0), (5, 0), (6, 0), (7, 0), (8, 0), (9, 0)]) (h := ?_)
 refine Oy (y := y_move) (h := ?_)
 refine Oy (y := y_nilCheck) (h := ?_)
 refine Oy (y := y_fieldAddr (hu := by exact Tryz.runUnderlying122) (hs := by exact Tryz.sizeOf55)) (h := ?_)
 refine Oy (y := y_load (ha := by exact Tryz.isAgg55)) (h := ?_)
 refine Oy (y := y_nilCheck) (h := ?_)
 refine Oy (y := y_fieldAddr (hu := by exact Tryz.runUnderlying120) (hs := by exact Tryz.sizeOf114)) (h := ?_)
 refine Oy (y := y_load (ha := by exact Tryz.isAgg114)) (h := ?_)
 refine Oy (y := y_loadA (ha := by exact Tryz.isAgg116) (hk := by exact Tryz.sizeOf116)) (h := ?_)
 refine Oy (y := y_lookupK1 (k := k) (hu := by exact Tryz.runUnderlying114) (L := plLaw) (hz := by exact Tryz.zeroValue57)) (h := ?_)
 refine Oy (y := y_assign) (h := ?_)
 refine WO.done ?_
 refine WK.ret ?_
 repeat (first | refine RQ.block ?_ | refine RQ.then_ ?_)
 refine RQ.body (results1 (by rfl) (by rfl)) (fun w s => ?_)
 exact ⟨(), trivial, rfl, s.toCs (by repeat (first | exact SelL.nil | exact SelL.self | apply SelL.cons | exact Sel.here | apply Sel.there | apply SelL.skip))⟩
set_option maxRecDepth 20000 in
set_option maxHeartbeats 3000000 in
theorem putD_spec (dq q : Nat) (id : Int) (mv : Value) (sbD : Nat) (ta : Option Addr) (tc : Nat) (fa : Option Addr) (nfD fc ibD gbD : Nat) (pl : Bool) (sh : Int) (nf ns : Nat) (W : LedW) (ms : List ((Int × Int) × Value)) (fid fstep a it n : Int) (pv mk : Value) (hpv : pv.oneCell' = true) (hmk : mk.oneCell' = true) (oa : Option Addr) (on_ oc : Nat) (old : List LotM) (ha : 1 ≤ a) (hn : on_ ≤ 4000) (hold : ∀ x ∈ old, okLot x) (hy : okLot (⟨fid, 0, n⟩ : LotM)) (hk : (kget ms (a, it)).getD (.slice none 0 0) = .slice oa on_ oc) :
  Triple Tryz.prog 97 #[.pointer (some ⟨dq, 0, none⟩), .agg #[.int .i64 fid, .int .i64 fstep, .int .i64 0, .int .i64 0, .int .i64 0, .int .i64 0, .int .i64 a, .int .i64 it, .int .i64 n, pv, mk]] [row true dq 122 (draftRow q id mv sbD ta tc fa nfD fc ibD gbD), row pl q 120 (ledRow sh nf ns W), mapK plE true sbD [], mapK plE true W.sb ms, sl false 145 3 oa on_ oc (flat lotC old)] (Option Addr × Nat) (fun _ => True) (fun _ => .int .i64 0) (fun x => [row true dq 122 (draftRow q id mv sbD ta tc fa nfD fc ibD gbD), row pl q 120 (ledRow sh nf ns W), mapK plE true sbD [((a, it), Value.slice x.1 (on_ + 1) x.2)], mapK plE true W.sb ms, sl false 145 3 oa on_ oc (flat lotC old), sl true 145 3 x.1 (on_ + 1) x.2 (flat lotC (old ++ [(⟨fid, 0, n⟩ : LotM)]))]) := by
 refine Triple.of_body (args := [.pointer (some ⟨dq, 0, none⟩), .agg #[.int .i64 fid, .int .i64 fstep, .int .i64 0, .int .i64 0, .int .i64 0, .int .i64 0, .int .i64 a, .int .i64 it, .int .i64 n, pv, mk]]) Tryz.func97 rfl Tryz.ntmps97 (by simp) (fun g F => ?_)
 dsimp only [numb, List.cons_append, List.nil_append]
 refine WK.seq ?_
 refine WK.region ?_
 refine Le e_box ?_
 rintro b3 -
 try dsimp only
 refine Ly y_assign ?_
 refine WL.done ?_
 refine WK.seq ?_
 refine WK.region ?_
 refine Ly (y_fieldAddr (hu := by exact Tryz.runUnderlying141) (hs := by exact Tryz.sizeOf3)) ?_
 refine Ly (y_load (ha := by exact Tryz.isAgg3)) ?_
 refine Ly (y_fieldAddr (hu := by exact Tryz.runUnderlying141) (hs := by exact Tryz.sizeOf3)) ?_
 refine Ly (y_load (ha := by exact Tryz.isAgg3)) ?_
 refine Ly (y_build (hz := by exact Tryz.zeroValue145) (hu := by exact Tryz.runUnderlying145) (hp := by exact fun w => places145 w Tryz.underlying145) (hne := by first | decide | simp)) ?_
 refine Le (e_alloc (by exact Tryz.zeroValue145)) ?_
 rintro b5 -
 try dsimp only
 refine Le0 (e_store (hk := by exact Tryz.sizeOf145) (h1 := by rfl)) ?_
 rintro _ -
 try dsimp only
 refine WL.done ?_
 refine WK.seq ?_
 refine WK.seq ?_
 refine WK.region ?_
 refine Ly (y_fieldAddr (hu := by exact Tryz.runUnderlying141) (hs := by exact Tryz.sizeOf3)) ?_
 refine Ly (y_load (ha := by exact Tryz.isAgg3)) ?_
 refine Ly y_eql ?_
 refine WL.done ?_
 refine Kcond (ht := fun hc14 => ?_) (hf := fun hc14 => ?_)
 ·
  have hc14 := of_decide_eq_true hc14
  exfalso
  first | omega | (simp at hc14; done) | (simp at hc14; omega) | (simp_all; done) | (simp_all; omega)
 ·
  have hc14 := of_decide_eq_false hc14
  refine WK.skip ?_
  refine WK.seq ?_
  refine WK.region ?_
  refine Ly (y_fieldAddr (hu := by exact Tryz.runUnderlying141) (hs := by exact Tryz.sizeOf3)) ?_
  refine Ly (y_load (ha := by exact Tryz.isAgg3)) ?_
  refine Ly (y_fieldAddr (hu := by exact Tryz.runUnderlying141) (hs := by exact Tryz.sizeOf3)) ?_
  refine Ly (y_load (ha := by exact Tryz.isAgg3)) ?_
  refine Ly (y_build (hz := by exact Tryz.zeroValue116) (hu := by exact Tryz.runUnderlying116) (hp := by exact fun w => places116 w Tryz.underlying116) (hne := by first | decide | simp)) ?_
  refine Le (e_alloc (by exact Tryz.zeroValue116)) ?_
  rintro b6 -
  try dsimp only
  refine Le0 (e_store (hk := by exact Tryz.sizeOf116) (h1 := by rfl)) ?_
  rintro _ -
  try dsimp only
  refine WL.done ?_
  refine WK.seq ?_
  refine Kdr (l := [(0, 0), (1, 0), (2, 0), (3, 0), (4, 0), (5, 0), (6, 0), (8, 0), (7, 1), (9, 1), (10, 2)]) (Cs := [row true dq 122 (draftRow q id mv sbD ta tc fa nfD fc ibD gbD), row true b5 145 [.int .i64 fid, .int .i64 0, .int .i64 n], row true b6 116 [.int .i64 a, .int .i64 it]]) (h := ?_)
  refine Oy (y := y_move) (h := ?_)
  refine Oy (y := y_nilCheck) (h := ?_)
  refine Oy (y := y_fieldAddr (hu := by exact Tryz.runUnderlying122) (hs := by exact Tryz.sizeOf114)) (h := ?_)
  refine Oy (y := y_load (ha := by exact Tryz.isAgg114)) (h := ?_)
  refine Oy (y := y_loadA (ha := by exact Tryz.isAgg116) (hk := by exact Tryz.sizeOf116)) (h := ?_)
  refine Oy (y := y_move) (h := ?_)
  refine Oy (y := y_loadA (ha := by exact Tryz.isAgg116) (hk := by exact Tryz.sizeOf116)) (h := ?_)
  refine Oy (y := y_loadA (ha := by exact Tryz.isAgg145) (hk := by exact Tryz.sizeOf145)) (h := ?_)
  refine Oe (e := (e_call (by exact Tryz.call135) (t := (stack_spec dq q id mv sbD ta tc fa nfD fc ibD gbD pl sh nf ns W ms (a, it))))) (h := ?_)
  rintro _ -
  rw [hk]
  try dsimp only
  refine Oe (e := (e_call (by exact Tryz.call140) (t := (putL_spec false oa on_ oc old hn (⟨fid, 0, n⟩ : LotM) hold rfl hy)))) (h := ?_)
  rintro ⟨ad40, cap40⟩ -
  try dsimp only
  refine Ob0 (e := (e_mapUpdateK (k := ((a, it))) (hu := by exact Tryz.runUnderlying114) (L := plLaw))) (h := ?_)
  rintro _ -
  try dsimp only
  refine WO.done ?_
  refine WK.seq ?_
  refine WK.seq ?_
  refine KdrQ (l := [(0, 0), (1, 0), (2, 0), (3, 0), (4, 0), (5, 0), (6, 0), (7, 0)]) (h := ?_)
  refine Oy (y := y_move) (h := ?_)
  refine Oy (y := y_nilCheck) (h := ?_)
  refine Oy (y := y_fieldAddr (hu := by exact Tryz.runUnderlying122) (hs := by exact Tryz.sizeOf114)) (h := ?_)
  refine Oy (y := y_load (ha := by exact Tryz.isAgg114)) (h := ?_)
  refine Oy (y := y_loadA (ha := by exact Tryz.isAgg116) (hk := by exact Tryz.sizeOf116)) (h := ?_)
  refine Oy (y := (y_lookupK1 (k := ((a, it))) (hu := by exact Tryz.runUnderlying114) (L := plLaw) (hz := by exact Tryz.zeroValue57))) (h := ?_)
  rw [kget_kset, if_pos rfl, Option.getD_some]
  refine Oy (y := y_len (hu := by exact Tryz.runUnderlying57)) (h := ?_)
  refine Oy (y := y_gtr) (h := ?_)
  refine WO.done ?_
  refine Kcond (ht := fun hc48 => ?_) (hf := fun hc48 => ?_)
  ·
   have hc48 := of_decide_eq_true hc48
   exfalso
   first | omega | (simp at hc48; done) | (simp at hc48; omega) | (simp_all; done) | (simp_all; omega)
  ·
   have hc48 := of_decide_eq_false hc48
   refine WK.skip ?_
   refine WK.seq ?_
   refine WK.region ?_
   refine Ly y_assign ?_
   refine WL.done ?_
   refine WK.ret ?_
   repeat (first | refine RQ.block ?_ | refine RQ.then_ ?_)
   refine RQ.body (results1 (by rfl) (by rfl)) (fun w s => ?_)
   exact ⟨(ad40, cap40), trivial, rfl, s.toCs (by repeat (first | exact SelL.nil | exact SelL.self | apply SelL.cons | exact Sel.here | apply Sel.there | apply SelL.skip))⟩
set_option maxRecDepth 20000 in
set_option maxHeartbeats 2000000 in
theorem take_spec (dq q : Nat) (id : Int) (mv : Value) (sbD : Nat) (ta : Option Addr) (tc : Nat) (fa : Option Addr) (nfD fc ibD gbD : Nat) (a it n : Int) :
  Triple Tryz.prog 96 #[.pointer (some ⟨dq, 0, none⟩), .agg #[.int .i64 0, .int .i64 a, .int .i64 it, .int .i64 n, .slice none 0 0]] [row true dq 122 (draftRow q id mv sbD ta tc fa nfD fc ibD gbD)] (Unit) (fun _ => True) (fun _ => .tuple #[.slice none 0 0, .int .i64 0]) (fun _ => [row true dq 122 (draftRow q id mv sbD ta tc fa nfD fc ibD gbD)]) := by
 refine Triple.of_body (args := [.pointer (some ⟨dq, 0, none⟩), .agg #[.int .i64 0, .int .i64 a, .int .i64 it, .int .i64 n, .slice none 0 0]]) Tryz.func96 rfl Tryz.ntmps96 (by simp) (fun g F => ?_)
 dsimp only [numb, List.cons_append, List.nil_append]
 refine WK.seq ?_
 refine WK.region ?_
 refine Le e_box ?_
 rintro b3 -
 try dsimp only
 refine Ly y_assign ?_
 refine Ly y_assign ?_
 refine WL.done ?_
 refine WK.seq ?_
 refine WK.region ?_
 refine Ly (y_fieldAddr (hu := by exact Tryz.runUnderlying59) (hs := by exact Tryz.sizeOf3)) ?_
 refine Ly (y_load (ha := by exact Tryz.isAgg3)) ?_
 refine Ly (y_fieldAddr (hu := by exact Tryz.runUnderlying59) (hs := by exact Tryz.sizeOf3)) ?_
 refine Ly (y_load (ha := by exact Tryz.isAgg3)) ?_
 refine Ly (y_build (hz := by exact Tryz.zeroValue116) (hu := by exact Tryz.runUnderlying116) (hp := by exact fun w => places116 w Tryz.underlying116) (hne := by first | decide | simp)) ?_
 refine Le (e_alloc (by exact Tryz.zeroValue116)) ?_
 rintro b6 -
 try dsimp only
 refine Le0 (e_store (hk := by exact Tryz.sizeOf116) (h1 := by rfl)) ?_
 rintro _ -
 try dsimp only
 refine WL.done ?_
 refine WK.seq ?_
 refine WK.block ?_
 refine WK.seq ?_
 refine WK.region ?_
 refine Ly (y_fieldAddr (hu := by exact Tryz.runUnderlying59) (hs := by exact Tryz.sizeOf3)) ?_
 refine Ly (y_load (ha := by exact Tryz.isAgg3)) ?_
 refine Ly y_gtr ?_
 refine Ly y_move ?_
 refine Lz ?_
 refine Lz ?_
 refine Lz ?_
 refine Lz ?_
 refine Ly y_pick_false ?_
 refine Ly y_assign ?_
 refine WL.done ?_
 refine Kcond (ht := fun h => by cases h) (hf := fun _ => ?_)
 refine WK.seq ?_
 refine WK.region ?_
 refine Ly (y_fieldAddr (hu := by exact Tryz.runUnderlying59) (hs := by exact Tryz.sizeOf3)) ?_
 refine Ly (y_load (ha := by exact Tryz.isAgg3)) ?_
 refine Ly y_gtr ?_
 refine Ly y_assign ?_
 refine WL.done ?_
 refine Kcond (ht := fun h => by cases h) (hf := fun _ => ?_)
 refine WK.seq ?_
 refine WK.region ?_
 refine Ly y_move ?_
 refine Ly y_nilCheck ?_
 refine Ly (y_fieldAddr (hu := by exact Tryz.runUnderlying122) (hs := by exact Tryz.sizeOf62)) ?_
 refine Ly (y_fieldAddr (hu := by exact Tryz.runUnderlying62) (hs := by exact Tryz.sizeOf3)) ?_
 refine Ly (y_load (ha := by exact Tryz.isAgg3)) ?_
 refine Ly y_eql ?_
 refine Ly y_assign ?_
 refine WL.done ?_
 refine Kcond (ht := fun h => by cases h) (hf := fun _ => ?_)
 refine WK.seq ?_
 refine WK.region ?_
 refine Ly y_move ?_
 refine Ly y_nilCheck ?_
 refine Ly (y_fieldAddr (hu := by exact Tryz.runUnderlying122) (hs := by exact Tryz.sizeOf62)) ?_
 refine Ly (y_fieldAddr (hu := by exact Tryz.runUnderlying62) (hs := by exact Tryz.sizeOf3)) ?_
 refine Ly (y_load (ha := by exact Tryz.isAgg3)) ?_
 refine Ly y_eql ?_
 refine Ly y_assign ?_
 refine WL.done ?_
 refine Kcond (ht := fun h => by cases h) (hf := fun _ => ?_)
 refine WK.skip ?_
 refine WK.endBlock ?_
 refine WK.seq ?_
 refine WK.region ?_
 refine Ly y_assign ?_
 refine Ly y_assign ?_
 refine WL.done ?_
 refine WK.ret ?_
 repeat (first | refine RQ.block ?_ | refine RQ.then_ ?_)
 refine RQ.body (results2 (by rfl) (by rfl) (by rfl)) (fun w s => ?_)
 exact ⟨(), trivial, rfl, s.toCs (by repeat (first | exact SelL.nil | exact SelL.self | apply SelL.cons | exact Sel.here | apply Sel.there | apply SelL.skip))⟩
set_option maxRecDepth 20000 in
set_option maxHeartbeats 1000000 in
theorem clone_int (p : Bool) (ad : Option Addr) (len cap : Nat) (l : List Int) (hlen : len ≤ 1000000) :
  Triple Tryz.prog 46 #[.slice ad len cap] [sl p 3 1 ad len cap (l.map (Value.int .i64))] (Option Addr × Nat) (fun x => ad = none → x = (none, 0)) (fun x => .slice x.1 len x.2) (fun x => [sl true 3 1 x.1 len x.2 (l.map (Value.int .i64)), sl p 3 1 ad len cap (l.map (Value.int .i64))]) := by
 refine Triple.of_body (args := [.slice ad len cap]) Tryz.func46 rfl Tryz.ntmps46 (by simp) (fun g F => ?_)
 dsimp only [numb, List.cons_append, List.nil_append]
 refine WK.seq ?_
 refine WK.region ?_
 refine Ly y_assign ?_
 refine WL.done ?_
 refine WK.seq ?_
 refine WK.seq ?_
 refine WK.region ?_
 refine Ly y_move ?_
 refine Ly (y_eqlNilS (hu := by exact Tryz.runUnderlying22)) ?_
 refine WL.done ?_
 refine Kcond (ht := fun hc4 => ?_) (hf := fun hc4 => ?_)
 ·
  obtain rfl : ad = none := by cases ad <;> simp_all
  refine WK.know (fun w s => Sat.slNone (s.sel1 (A := sl p 3 1 none len cap (l.map (Value.int .i64))) (by repeat (first | exact .here | apply Sel.there)))) (fun hkn => ?_)
  obtain ⟨rfl, hxs⟩ := hkn
  refine WK.seq ?_
  refine WK.region ?_
  refine Ly y_assign ?_
  refine WL.done ?_
  refine WK.ret ?_
  repeat (first | refine RQ.block ?_ | refine RQ.then_ ?_)
  refine RQ.body (results1 (by rfl) (by rfl)) (fun w s => ?_)
  refine ⟨(none, 0), fun _ => rfl, rfl, ?_⟩
  have s2 := Sat.nilSl s true 3 1
  rw [hxs] at s2 ⊢
  exact s2.toCs (by repeat (first | exact SelL.nil | exact SelL.self | apply SelL.cons | exact Sel.here | apply Sel.there | apply SelL.skip))
 ·
  have hne : ad ≠ none := by rintro rfl; simp at hc4
  refine WK.skip ?_
  refine WK.seq ?_
  refine WK.region ?_
  refine Le (e_mkSlice0 (by exact Tryz.runUnderlying22) (by exact Tryz.sizeOf3)) ?_
  rintro b5 -
  try dsimp only
  refine Ly y_move ?_
  refine Le (e_append (et := elem22) (htx := by exact Tryz.underlying22) (hb := by omega) (hm := by omega)) ?_
  rintro ⟨ad7, cap7⟩ -
  try dsimp only
  refine Ly y_assign ?_
  refine WL.done ?_
  refine WK.ret ?_
  repeat (first | refine RQ.block ?_ | refine RQ.then_ ?_)
  refine RQ.body (results1 (by rfl) (by rfl)) (fun w s => ?_)
  refine ⟨(ad7, cap7), fun h => absurd h hne, by rw [Nat.zero_add], ?_⟩
  rw [Nat.zero_add, List.nil_append] at s
  exact s.toCs (by repeat (first | exact SelL.nil | exact SelL.self | apply SelL.cons | exact Sel.here | apply Sel.there | apply SelL.skip))
set_option maxRecDepth 20000 in
set_option maxHeartbeats 4000000 in
theorem perform_spec (dq q : Nat) (id : Int) (mv : Value) (sbD : Nat) (ta : Option Addr) (tc : Nat) (ibD gbD : Nat) (pl : Bool) (sh : Int) (nf ns : Nat) (W : LedW) (ms : List ((Int × Int) × Value)) (a n : Int) (k : Nat) (tot : List Int) (t : Int) (oa : Option Addr) (on_ oc : Nat) (old : List LotM) (hsh : 0 ≤ sh ∧ sh < 12) (hnf : nf ≤ 60000) (ha : 1 ≤ a ∧ a ≤ 1073741824) (hk4 : k < 4) (hn1 : 1 ≤ n ∧ n ≤ 1099511627776) (ht : tot[k]? = some t) (ht1 : 0 ≤ t ∧ t + n ≤ 1099511627776) (hon : on_ ≤ 4000) (hold : ∀ x ∈ old, okLot x) (hkk : (kget ms (a, (k : Int))).getD (.slice none 0 0) = .slice oa on_ oc) :
  Triple Tryz.prog 69 #[.pointer (some ⟨dq, 0, none⟩), .agg #[.int .i64 0, .int .i64 a, .int .i64 (k : Int), .int .i64 n, .slice none 0 0], .slice none 0 0] [row true dq 122 (draftRow q id mv sbD ta tc none 0 0 ibD gbD), row pl q 120 (ledRow sh nf ns W), mapK plE true sbD [], mapK plE true W.sb ms, sl false 145 3 oa on_ oc (flat lotC old), sl true 3 1 ta 4 tc (tot.map (Value.int .i64))] ((Option Addr × Nat) × (Option Addr × Nat)) (fun _ => True) (fun _ => .int .i64 0) (fun x => [row true dq 122 (draftRow q id mv sbD ta tc x.2.1 1 x.2.2 ibD gbD), row pl q 120 (ledRow sh nf ns W), mapK plE true sbD [((a, (k : Int)), Value.slice x.1.1 (on_ + 1) x.1.2)], mapK plE true W.sb ms, sl false 145 3 oa on_ oc (flat lotC old), sl true 3 1 ta 4 tc ((tot.set k (t + n)).map (Value.int .i64)), sl true 145 3 x.1.1 (on_ + 1) x.1.2 (flat lotC (old ++ [(⟨sh * 4294967296 + (nf : Int), 0, n⟩ : LotM)])), sl true 141 11 x.2.1 1 x.2.2 [.int .i64 (sh * 4294967296 + (nf : Int)), .int .i64 id, .int .i64 0, .int .i64 0, .int .i64 0, .int .i64 0, .int .i64 a, .int .i64 (k : Int), .int .i64 n, .slice none 0 0, .slice none 0 0]]) := by
 refine Triple.of_body (args := [.pointer (some ⟨dq, 0, none⟩), .agg #[.int .i64 0, .int .i64 a, .int .i64 (k : Int), .int .i64 n, .slice none 0 0], .slice none 0 0]) Tryz.func69 rfl Tryz.ntmps69 (by simp) (fun g F => ?_)
 dsimp only [numb, List.cons_append, List.nil_append]
 refine WK.know (fun w s => Sat.slLen (s.sel1 (A := sl true 3 1 ta 4 tc (tot.map (Value.int .i64))) (by repeat (first | exact .here | apply Sel.there)))) (fun hkn => ?_)
 obtain ⟨htl, -⟩ := hkn
 simp only [Nat.mul_one, List.length_map] at htl
 refine WK.seq ?_
 refine WK.region ?_
 refine Le e_box ?_
 rintro b4 -
 try dsimp only
 refine Ly y_assign ?_
 refine WL.done ?_
 refine WK.seq ?_
 refine Kdr (l := [(0, 0), (1, 0), (2, 0), (3, 0), (4, 0), (5, 0), (6, 0), (7, 0), (8, 0), (9, 0), (10, 0), (11, 0), (12, 0), (13, 0), (14, 0), (15, 0), (16, 0), (17, 0), (18, 0), (19, 0), (20, 0), (21, 0), (22, 0), (23, 0), (24, 0), (25, 0), (26, 0), (27, 0), (28, 0), (29, 0), (30, 0), (31, 0), (32, 0), (33, 0), (34, 0), (35, 0), (36, 0), (37, 0), (38, 0), (39, 0), (40, 0), (41, 0), (42, 0), (43, 0), (44, 0), (45, 0), (46, 0), (47, 0), (48, 0), (49, 0), (50, 0), (51, 1), (52, 2)]) (Cs := [row true dq 122 (draftRow q id mv sbD ta tc none 0 0 ibD gbD), row pl q 120 (ledRow sh nf ns W), row true b4 59 [.int .i64 0, .int .i64 a, .int .i64 (k : Int), .int .i64 n, .slice none 0 0]]) (h := ?_)
 refine Oy (y := y_move) (h := ?_)
 refine Oy (y := y_nilCheck) (h := ?_)
 refine Oy (y := y_fieldAddr (hu := by exact Tryz.runUnderlying122) (hs := by exact Tryz.sizeOf55)) (h := ?_)
 refine Oy (y := y_load (ha := by exact Tryz.isAgg55)) (h := ?_)
 refine Oy (y := y_nilCheck) (h := ?_)
 refine Oy (y := y_fieldAddr (hu := by exact Tryz.runUnderlying120) (hs := by exact Tryz.sizeOf3)) (h := ?_)
 refine Oy (y := y_load (ha := by exact Tryz.isAgg3)) (h := ?_)
 refine Oy (y := y_shl (hr := show IntKind.i64.wrap (sh * 2 ^ (min ((32 : Int)).toNat IntKind.i64.bits)) = sh * 4294967296 from by rw [show (2 : Int) ^ (min ((32 : Int)).toNat IntKind.i64.bits) = 4294967296 from by decide]; exact w64 (by omega) (by omega))) (h := ?_)
 refine Oy (y := y_move) (h := ?_)
 refine Oy (y := y_nilCheck) (h := ?_)
 refine Oy (y := y_fieldAddr (hu := by exact Tryz.runUnderlying122) (hs := by exact Tryz.sizeOf55)) (h := ?_)
 refine Oy (y := y_load (ha := by exact Tryz.isAgg55)) (h := ?_)
 refine Oy (y := y_nilCheck) (h := ?_)
 refine Oy (y := y_fieldAddr (hu := by exact Tryz.runUnderlying120) (hs := by exact Tryz.sizeOf117)) (h := ?_)
 refine Oy (y := y_load (ha := by exact Tryz.isAgg117)) (h := ?_)
 refine Oy (y := y_len (hu := by exact Tryz.runUnderlying117)) (h := ?_)
 refine Oy (y := y_add) (h := ?_)
 refine Oy (y := y_move) (h := ?_)
 refine Oy (y := y_nilCheck) (h := ?_)
 refine Oy (y := y_fieldAddr (hu := by exact Tryz.runUnderlying122) (hs := by exact Tryz.sizeOf117)) (h := ?_)
 refine Oy (y := y_load (ha := by exact Tryz.isAgg117)) (h := ?_)
 refine Oy (y := y_len (hu := by exact Tryz.runUnderlying117)) (h := ?_)
 refine Oy (y := (y_add (hr := (show IntKind.i64.wrap _ = sh * 4294967296 + (nf : Int) from by rw [show ((0 : Nat) : Int) = 0 from rfl, Int.add_zero]; exact w64 (by omega) (by omega))))) (h := ?_)
 refine Oy (y := y_move) (h := ?_)
 refine Oy (y := y_nilCheck) (h := ?_)
 refine Oy (y := y_fieldAddr (hu := by exact Tryz.runUnderlying122) (hs := by exact Tryz.sizeOf3)) (h := ?_)
 refine Oy (y := y_load (ha := by exact Tryz.isAgg3)) (h := ?_)
 refine Oy (y := y_move) (h := ?_)
 refine Oy (y := y_nilCheck) (h := ?_)
 refine Oy (y := y_fieldAddr (hu := by exact Tryz.runUnderlying122) (hs := by exact Tryz.sizeOf62)) (h := ?_)
 refine Oy (y := y_fieldAddr (hu := by exact Tryz.runUnderlying62) (hs := by exact Tryz.sizeOf3)) (h := ?_)
 refine Oy (y := y_load (ha := by exact Tryz.isAgg3)) (h := ?_)
 refine Oy (y := y_move) (h := ?_)
 refine Oy (y := y_nilCheck) (h := ?_)
 refine Oy (y := y_fieldAddr (hu := by exact Tryz.runUnderlying122) (hs := by exact Tryz.sizeOf62)) (h := ?_)
 refine Oy (y := y_fieldAddr (hu := by exact Tryz.runUnderlying62) (hs := by exact Tryz.sizeOf3)) (h := ?_)
 refine Oy (y := y_load (ha := by exact Tryz.isAgg3)) (h := ?_)
 refine Oy (y := y_move) (h := ?_)
 refine Oy (y := y_nilCheck) (h := ?_)
 refine Oy (y := y_fieldAddr (hu := by exact Tryz.runUnderlying122) (hs := by exact Tryz.sizeOf62)) (h := ?_)
 refine Oy (y := y_fieldAddr (hu := by exact Tryz.runUnderlying62) (hs := by exact Tryz.sizeOf3)) (h := ?_)
 refine Oy (y := y_load (ha := by exact Tryz.isAgg3)) (h := ?_)
 refine Oy (y := y_fieldAddr (hu := by exact Tryz.runUnderlying59) (hs := by exact Tryz.sizeOf3)) (h := ?_)
 refine Oy (y := y_load (ha := by exact Tryz.isAgg3)) (h := ?_)
 refine Oy (y := y_fieldAddr (hu := by exact Tryz.runUnderlying59) (hs := by exact Tryz.sizeOf3)) (h := ?_)
 refine Oy (y := y_load (ha := by exact Tryz.isAgg3)) (h := ?_)
 refine Oy (y := y_fieldAddr (hu := by exact Tryz.runUnderlying59) (hs := by exact Tryz.sizeOf3)) (h := ?_)
 refine Oy (y := y_load (ha := by exact Tryz.isAgg3)) (h := ?_)
 refine Oy (y := y_fieldAddr (hu := by exact Tryz.runUnderlying59) (hs := by exact Tryz.sizeOf3)) (h := ?_)
 refine Oy (y := y_load (ha := by exact Tryz.isAgg3)) (h := ?_)
 refine Oy (y := y_build (hz := by exact Tryz.zeroValue141) (hu := by exact Tryz.runUnderlying141) (hp := by exact fun w => places141 w Tryz.underlying141) (hne := by first | decide | simp)) (h := ?_)
 refine Oe (e := e_alloc (by exact Tryz.zeroValue141)) (h := ?_)
 rintro b7 -
 try dsimp only
 refine Ob0 (e := e_store (hk := by exact Tryz.sizeOf141) (h1 := by rfl)) (h := ?_)
 rintro _ -
 try dsimp only
 refine WO.done ?_
 refine WK.seq ?_
 refine WK.region ?_
 refine Ly y_move ?_
 refine Ly (y_loadA (ha := by exact Tryz.isAgg59) (hk := by exact Tryz.sizeOf59)) ?_
 refine Le (e_call (by exact Tryz.call96) (t := take_spec dq q id mv sbD ta tc none 0 0 ibD gbD a (k : Int) n)) ?_
 rintro _ -
 try dsimp only
 refine Ly y_move ?_
 refine Ly y_extract ?_
 refine Ly y_extract ?_
 refine Ly y_assign ?_
 refine Ly y_assign ?_
 refine WL.done ?_
 refine WK.seq ?_
 refine WK.seq ?_
 refine WK.region ?_
 refine Ly y_move ?_
 refine Ly y_neq ?_
 refine WL.done ?_
 refine Kcond (ht := fun h => by cases h) (hf := fun _ => ?_)
 refine WK.skip ?_
 refine WK.seq ?_
 refine WK.sat (fun w s => Sat.nilSl s true 145 3) ?_
 refine WK.region ?_
 refine Ly y_move ?_
 refine Le (e_call (by exact Tryz.call71) (t := clone_lot true none 0 0 [] (by decide))) ?_
 rintro ⟨ad72, cap72⟩ h72
 have h72 := h72 rfl
 cases h72
 try dsimp only
 refine Ly (y_fieldAddr (hu := by exact Tryz.runUnderlying141) (hs := by exact Tryz.sizeOf57)) ?_
 refine Le0 (e_store (hk := by exact Tryz.sizeOf57) (h1 := by rfl)) ?_
 rintro _ -
 try dsimp only
 refine WL.done ?_
 refine WK.seq ?_
 refine WK.seq ?_
 refine WK.region ?_
 refine Ly (y_fieldAddr (hu := by exact Tryz.runUnderlying59) (hs := by exact Tryz.sizeOf3)) ?_
 refine Ly (y_load (ha := by exact Tryz.isAgg3)) ?_
 refine Ly y_eql ?_
 refine WL.done ?_
 refine Kcond (ht := fun _ => ?_) (hf := fun h => by cases h)
 refine WK.seq ?_
 refine Kdr (l := [(0, 0), (1, 0), (2, 0), (3, 0), (4, 0), (5, 0), (6, 0), (7, 0), (8, 0), (9, 0), (10, 0), (11, 0), (12, 2)]) (Cs := [row true dq 122 (draftRow q id mv sbD ta tc none 0 0 ibD gbD), row true b4 59 [.int .i64 0, .int .i64 a, .int .i64 (k : Int), .int .i64 n, .slice none 0 0], sl true 3 1 ta 4 tc (tot.map (Value.int .i64))]) (h := ?_)
 refine Oy (y := y_move) (h := ?_)
 refine Oy (y := y_nilCheck) (h := ?_)
 refine Oy (y := y_fieldAddr (hu := by exact Tryz.runUnderlying122) (hs := by exact Tryz.sizeOf22)) (h := ?_)
 refine Oy (y := y_load (ha := by exact Tryz.isAgg22)) (h := ?_)
 refine Oy (y := y_fieldAddr (hu := by exact Tryz.runUnderlying59) (hs := by exact Tryz.sizeOf3)) (h := ?_)
 refine Oy (y := y_load (ha := by exact Tryz.isAgg3)) (h := ?_)
 refine Oy (y := y_indexAddrS (hu := by exact Tryz.runUnderlying22) (hz := by exact Tryz.sizeOf3) (j := k) (hi := by first | rfl | omega) (hj' := by omega) (hj := by omega) (hr := by exact Nat.mul_one _)) (h := ?_)
 refine Oy (y := (y_loadS (ha := by exact Tryz.isAgg3) (hv := (by rw [List.getElem?_map, ht]; rfl)))) (h := ?_)
 refine Oy (y := y_fieldAddr (hu := by exact Tryz.runUnderlying59) (hs := by exact Tryz.sizeOf3)) (h := ?_)
 refine Oy (y := y_load (ha := by exact Tryz.isAgg3)) (h := ?_)
 refine Oy (y := y_add) (h := ?_)
 refine Oy (y := y_indexAddrS (hu := by exact Tryz.runUnderlying22) (hz := by exact Tryz.sizeOf3) (j := k) (hi := by first | rfl | omega) (hj' := by omega) (hj := by omega) (hr := by exact Nat.mul_one _)) (h := ?_)
 refine Ob0 (e := e_storeS (hm := by exact Tryz.sizeOf3) (h1 := by rfl) (hne := by first | (simp; done) | (intro h; cases h)) (hl' := SetAts.cons (SetAt.mk (show k < _ from by rw [List.length_map]; omega)) SetAts.nil)) (h := ?_)
 rintro _ -
 try dsimp only
 refine WO.done ?_
 refine WK.sat (fun w s => Sat.nilSl s true 3 1) ?_
 refine WK.region ?_
 refine Ly y_move ?_
 refine Le (e_call (by exact Tryz.call46) (t := clone_int true none 0 0 [] (by decide))) ?_
 rintro ⟨ad90, cap90⟩ h90
 have h90 := h90 rfl
 cases h90
 try dsimp only
 refine Ly (y_fieldAddr (hu := by exact Tryz.runUnderlying141) (hs := by exact Tryz.sizeOf22)) ?_
 refine Le0 (e_store (hk := by exact Tryz.sizeOf22) (h1 := by rfl)) ?_
 rintro _ -
 try dsimp only
 refine WL.done ?_
 refine WK.seq ?_
 refine WK.seq ?_
 refine WK.region ?_
 refine Ly (y_fieldAddr (hu := by exact Tryz.runUnderlying59) (hs := by exact Tryz.sizeOf3)) ?_
 refine Ly (y_load (ha := by exact Tryz.isAgg3)) ?_
 refine Ly y_eql ?_
 refine WL.done ?_
 refine Kcond (ht := fun hc94 => ?_) (hf := fun hc94 => ?_)
 ·
  have hc94 := of_decide_eq_true hc94
  exfalso
  first | omega | (simp at hc94; done) | (simp at hc94; omega) | (simp_all; done) | (simp_all; omega)
 ·
  have hc94 := of_decide_eq_false hc94
  refine WK.skip ?_
  refine WK.seq ?_
  refine WK.seq ?_
  refine KdrQ (l := [(0, 0), (1, 0), (2, 0), (3, 0), (4, 0), (5, 0), (6, 0), (7, 0), (8, 0)]) (h := ?_)
  refine Oy (y := y_move) (h := ?_)
  refine Oy (y := y_nilCheck) (h := ?_)
  refine Oy (y := y_fieldAddr (hu := by exact Tryz.runUnderlying122) (hs := by exact Tryz.sizeOf22)) (h := ?_)
  refine Oy (y := y_load (ha := by exact Tryz.isAgg22)) (h := ?_)
  refine Oy (y := y_fieldAddr (hu := by exact Tryz.runUnderlying59) (hs := by exact Tryz.sizeOf3)) (h := ?_)
  refine Oy (y := y_load (ha := by exact Tryz.isAgg3)) (h := ?_)
  refine Oy (y := y_indexAddrS (hu := by exact Tryz.runUnderlying22) (hz := by exact Tryz.sizeOf3) (j := k) (hi := by first | rfl | omega) (hj' := by omega) (hj := by omega) (hr := by exact Nat.mul_one _)) (h := ?_)
  refine Oy (y := y_loadS (ha := by exact Tryz.isAgg3) (hv := by rw [List.getElem?_set_self (by rw [List.length_map]; omega)])) (h := ?_)
  refine Oy (y := y_gtr) (h := ?_)
  refine WO.done ?_
  refine Kcond (ht := fun hc115 => ?_) (hf := fun hc115 => ?_)
  ·
   have hc115 := of_decide_eq_true hc115
   exfalso
   first | omega | (simp at hc115; done) | (simp at hc115; omega) | (simp_all; done) | (simp_all; omega)
  ·
   have hc115 := of_decide_eq_false hc115
   refine WK.skip ?_
   refine WK.seq ?_
   refine WK.seq ?_
   refine WK.region ?_
   refine Ly y_move ?_
   refine Ly (y_loadA (ha := by exact Tryz.isAgg141) (hk := by exact Tryz.sizeOf141)) ?_
   refine Le (e_call (by exact Tryz.call97) (t := (putD_spec dq q id mv sbD ta tc none 0 0 ibD gbD pl sh nf ns W ms (sh * 4294967296 + (nf : Int)) id a (k : Int) n (.slice none 0 0) (.slice none 0 0) rfl rfl oa on_ oc old (by omega) hon hold (show okLot (⟨sh * 4294967296 + (nf : Int), 0, n⟩ : LotM) from ⟨by dsimp only; omega, by dsimp only; omega, hn1.1, hn1.2, by dsimp only; omega⟩) hkk))) ?_
   rintro ⟨ad118, cap118⟩ -
   try dsimp only
   refine Ly y_assign ?_
   refine WL.done ?_
   refine WK.seq ?_
   refine WK.region ?_
   refine Ly y_move ?_
   refine Ly y_neq ?_
   refine WL.done ?_
   refine Kcond (ht := fun h => by cases h) (hf := fun _ => ?_)
   refine WK.skip ?_
   refine WK.seq ?_
   refine WK.sat (fun w s => Sat.nilSl s true 141 11) ?_
   refine Kdr (l := [(0, 0), (1, 0), (2, 0), (3, 0), (4, 0), (5, 0), (6, 1), (7, 1), (8, 0), (9, 0), (10, 2)]) (Cs := [row true dq 122 (draftRow q id mv sbD ta tc none 0 0 ibD gbD), row true b7 141 [.int .i64 (sh * 4294967296 + (nf : Int)), .int .i64 id, .int .i64 0, .int .i64 0, .int .i64 0, .int .i64 0, .int .i64 a, .int .i64 (k : Int), .int .i64 n, .slice none 0 0, .slice none 0 0]]) (h := ?_)
   refine Oy (y := y_move) (h := ?_)
   refine Oy (y := y_move) (h := ?_)
   refine Oy (y := y_nilCheck) (h := ?_)
   refine Oy (y := y_fieldAddr (hu := by exact Tryz.runUnderlying122) (hs := by exact Tryz.sizeOf117)) (h := ?_)
   refine Oy (y := y_load (ha := by exact Tryz.isAgg117)) (h := ?_)
   refine Oy (y := y_loadA (ha := by exact Tryz.isAgg141) (hk := by exact Tryz.sizeOf141)) (h := ?_)
   refine Oe (e := e_mkSlice1 (hu := by exact Tryz.runUnderlying117) (hk := by exact Tryz.sizeOf141) (hz := by exact Tryz.zeroValue141) (hk0 := by rfl) (hb := by decide) (h1 := by rfl)) (h := ?_)
   rintro b128 -
   try dsimp only
   refine Oe (e := e_append (et := elem117) (htx := by exact Tryz.underlying117) (hb := by omega) (hm := by omega)) (h := ?_)
   rintro ⟨ad129, cap129⟩ -
   try dsimp only
   refine Oy (y := y_nilCheck) (h := ?_)
   refine Oy (y := y_fieldAddr (hu := by exact Tryz.runUnderlying122) (hs := by exact Tryz.sizeOf117)) (h := ?_)
   refine Ob0 (e := e_store (hk := by exact Tryz.sizeOf117) (h1 := by rfl)) (h := ?_)
   rintro _ -
   try dsimp only
   refine WO.done ?_
   refine WK.seq ?_
   refine WK.region ?_
   refine Ly y_assign ?_
   refine WL.done ?_
   refine WK.ret ?_
   repeat (first | refine RQ.block ?_ | refine RQ.then_ ?_)
   refine RQ.body (results1 (by rfl) (by rfl)) (fun w s => ?_)
   refine ⟨((ad118, cap118), (ad129, cap129)), trivial, rfl, ?_⟩
   rw [List.map_set]
   exact s.toCs (by repeat (first | exact SelL.nil | exact SelL.self | apply SelL.cons | exact Sel.here | apply Sel.there | apply SelL.skip))
end Go.Proofs.YtkakfmcjiabjjaaGreatDoor
