import Derived.Test.YtkakfmcjiabjjaaGreatDoorLedB
namespace Go.Proofs.YtkakfmcjiabjjaaGreatDoor
set_option linter.unusedVariables false
set_option linter.unusedSimpArgs false
set_option linter.unusedSectionVars false
set_option linter.unnecessarySimpa false
open Go Go.Sep
attribute [local irreducible] row sl mapO held exL allR byt mapI slr mapK rangeK vec pack
/-- Where the parts of a draft lie: itself, stacks, totals, the two other maps, the new stack, the flow. -/
structure DrW where
  dq : Nat
  sb : Nat
  ta : Option Addr
  tc : Nat
  ib : Nat
  gb : Nat
  la : Option Addr
  lc : Nat
  fa : Option Addr
  fc : Nat
set_option maxRecDepth 20000 in
set_option maxHeartbeats 8000000 in
theorem draft_spec (q : Nat) (sh : Int) (nf ns : Nat) (W : LedW) (xs : List Value) (hx : Ticks ns xs) (hns : ns ≤ 60000) (ms : List ((Int × Int) × Value)) (a n : Int) (k : Nat) (tot : List Int) (t : Int) (oa : Option Addr) (on_ oc : Nat) (old : List LotM) (hsh : 0 ≤ sh ∧ sh < 12) (hnf : nf ≤ 60000) (ha : 1 ≤ a ∧ a ≤ 1073741824) (hk4 : k < 4) (hn1 : 1 ≤ n ∧ n ≤ 1099511627776) (ht : tot[k]? = some t) (ht1 : 0 ≤ t ∧ t + n ≤ 1099511627776) (hon : on_ ≤ 4000) (hold : ∀ x ∈ old, okLot x) (hkk : (kget ms (a, (k : Int))).getD (.slice none 0 0) = .slice oa on_ oc) (p : Bool) (ad : Option Addr) (cap : Nat) :
  Triple Tryz.prog 52 #[.pointer (some ⟨q, 0, none⟩), .agg #[.int .i64 0, .int .i64 0, .int .i64 0, .int .i64 0, .int .i64 (-1), .int .i64 0, .slice ad 1 cap]] [row true q 120 (ledRow sh nf ns W), sl true 62 7 W.sa ns W.sc xs, sl p 59 5 ad 1 cap (flat moveC [(⟨0, a, (k : Int), n⟩ : MoveM)]), mapK plE true W.sb ms, sl false 145 3 oa on_ oc (flat lotC old), sl true 3 1 W.ta 4 W.tc (tot.map (Value.int .i64))] (DrW) (fun _ => True) (fun x => .tuple #[.pointer (some ⟨x.dq, 0, none⟩), .int .i64 0]) (fun x => [row true x.dq 122 (draftRow q (sh * 4294967296 + (ns : Int)) (.slice ad 1 cap) x.sb x.ta x.tc x.fa 1 x.fc x.ib x.gb), mapK plE true x.sb [((a, (k : Int)), Value.slice x.la (on_ + 1) x.lc)], sl true 3 1 x.ta 4 x.tc ((tot.set k (t + n)).map (Value.int .i64)), mapK (fun i : Int => Value.int .i64 i) true x.ib [], mapK (fun i : Int => Value.int .i64 i) true x.gb [], sl true 145 3 x.la (on_ + 1) x.lc (flat lotC (old ++ [(⟨sh * 4294967296 + (nf : Int), 0, n⟩ : LotM)])), sl true 141 11 x.fa 1 x.fc [.int .i64 (sh * 4294967296 + (nf : Int)), .int .i64 (sh * 4294967296 + (ns : Int)), .int .i64 0, .int .i64 0, .int .i64 0, .int .i64 0, .int .i64 a, .int .i64 (k : Int), .int .i64 n, .slice none 0 0, .slice none 0 0], row true q 120 (ledRow sh nf ns W), sl true 62 7 W.sa ns W.sc xs, sl p 59 5 ad 1 cap (flat moveC [(⟨0, a, (k : Int), n⟩ : MoveM)]), mapK plE true W.sb ms, sl false 145 3 oa on_ oc (flat lotC old), sl true 3 1 W.ta 4 W.tc (tot.map (Value.int .i64))]) := by
 refine Triple.of_body (args := [.pointer (some ⟨q, 0, none⟩), .agg #[.int .i64 0, .int .i64 0, .int .i64 0, .int .i64 0, .int .i64 (-1), .int .i64 0, .slice ad 1 cap]]) Tryz.func52 rfl Tryz.ntmps52 (by simp) (fun g F => ?_)
 dsimp only [numb, List.cons_append, List.nil_append]
 refine WK.seq ?_
 refine WK.region ?_
 refine Le e_box ?_
 rintro b3 -
 try dsimp only
 refine Ly y_assign ?_
 refine Ly y_assign ?_
 refine WL.done ?_
 refine WK.seq ?_
 refine WK.seq ?_
 refine WK.region ?_
 refine Ly y_move ?_
 refine Ly (y_loadA (ha := by exact Tryz.isAgg62) (hk := by exact Tryz.sizeOf62)) ?_
 refine Le (e_call (by exact Tryz.call68) (t := (check_spec true q sh nf ns W true xs hx hns p ad cap (⟨0, a, (k : Int), n⟩ : MoveM) ⟨⟨by dsimp only; omega, by dsimp only; omega⟩, ⟨by dsimp only; omega, by dsimp only; omega⟩, ⟨by dsimp only; omega, by dsimp only; omega⟩, hn1, by dsimp only; omega⟩ ⟨rfl, by dsimp only; omega⟩))) ?_
 rintro _ -
 try dsimp only
 refine Ly y_assign ?_
 refine WL.done ?_
 refine WK.seq ?_
 refine WK.region ?_
 refine Ly y_move ?_
 refine Ly y_neq ?_
 refine WL.done ?_
 refine Kcond (ht := fun h => by cases h) (hf := fun _ => ?_)
 refine WK.skip ?_
 refine WK.seq ?_
 refine WK.cut (ι := Nat × Nat × (Option Addr × Nat) × Nat × Nat) (fun _ => True) (fun x => [(3, .pointer (some ⟨b3, 0, none⟩)), (7, .pointer (some ⟨x.1, 0, none⟩))]) (fun x => row true x.1 122 (draftRow q (sh * 4294967296 + (ns : Int)) (.slice ad 1 cap) x.2.1 x.2.2.1.1 x.2.2.1.2 none 0 0 x.2.2.2.1 x.2.2.2.2) :: mapO true x.2.1 [] 0 :: sl true 3 1 x.2.2.1.1 4 x.2.2.1.2 (tot.map (Value.int .i64)) :: mapO true x.2.2.2.1 [] 0 :: mapO true x.2.2.2.2 [] 0 :: row true b3 62 [.int .i64 0, .int .i64 0, .int .i64 0, .int .i64 0, .int .i64 (-1), .int .i64 0, .slice ad 1 cap] :: row true q 120 (ledRow sh nf ns W) :: sl true 62 7 W.sa ns W.sc xs :: sl p 59 5 ad 1 cap (flat moveC [(⟨0, a, (k : Int), n⟩ : MoveM)]) :: mapK plE true W.sb ms :: sl false 145 3 oa on_ oc (flat lotC old) :: sl true 3 1 W.ta 4 W.tc (tot.map (Value.int .i64)) :: F) ?_ ?_
 ·
  rintro ⟨dq, sbD, ⟨ta, tc⟩, ibD, gbD⟩ -
  dsimp only
  refine WK.sat (fun w s => Sat.mapKNew (enc := plE) (s.sel1 (A := mapO true sbD [] 0) (by repeat (first | exact .here | apply Sel.there)))) ?_
  refine WK.sat (fun w s => Sat.mapKNew (enc := (fun i : Int => Value.int .i64 i)) (s.sel1 (A := mapO true ibD [] 0) (by repeat (first | exact .here | apply Sel.there)))) ?_
  refine WK.sat (fun w s => Sat.mapKNew (enc := (fun i : Int => Value.int .i64 i)) (s.sel1 (A := mapO true gbD [] 0) (by repeat (first | exact .here | apply Sel.there)))) ?_
  refine WK.seq ?_
  refine WK.region ?_
  refine Ly y_assign ?_
  refine WL.done ?_
  refine WK.seq ?_
  refine WK.seq ?_
  refine WK.region ?_
  refine Ly (y_fieldAddr (hu := by exact Tryz.runUnderlying62) (hs := by exact Tryz.sizeOf60)) ?_
  refine Ly (y_load (ha := by exact Tryz.isAgg60)) ?_
  refine Ly (y_len (hu := by exact Tryz.runUnderlying60)) ?_
  refine Ly y_move ?_
  refine WL.done ?_
  refine WK.block ?_
  refine Kloop (ι := Option ((Option Addr × Nat) × (Option Addr × Nat))) (fun _ => True) (fun x => [(3, .pointer (some ⟨b3, 0, none⟩)), (7, .pointer (some ⟨dq, 0, none⟩)), (8, .slice none 0 0), (43, .slice ad 1 cap), (44, .int .i64 1), (45, .int .i64 (match x with | none => 0 | some _ => 1))]) (fun x => match x with | none => row true dq 122 (draftRow q (sh * 4294967296 + (ns : Int)) (.slice ad 1 cap) sbD ta tc none 0 0 ibD gbD) :: mapK plE true sbD [] :: sl true 3 1 ta 4 tc (tot.map (Value.int .i64)) :: mapK (fun i : Int => Value.int .i64 i) true ibD [] :: mapK (fun i : Int => Value.int .i64 i) true gbD [] :: row true b3 62 [.int .i64 0, .int .i64 0, .int .i64 0, .int .i64 0, .int .i64 (-1), .int .i64 0, .slice ad 1 cap] :: row true q 120 (ledRow sh nf ns W) :: sl true 62 7 W.sa ns W.sc xs :: sl p 59 5 ad 1 cap (flat moveC [(⟨0, a, (k : Int), n⟩ : MoveM)]) :: mapK plE true W.sb ms :: sl false 145 3 oa on_ oc (flat lotC old) :: sl true 3 1 W.ta 4 W.tc (tot.map (Value.int .i64)) :: F | some y => row true dq 122 (draftRow q (sh * 4294967296 + (ns : Int)) (.slice ad 1 cap) sbD ta tc y.2.1 1 y.2.2 ibD gbD) :: mapK plE true sbD [((a, (k : Int)), Value.slice y.1.1 (on_ + 1) y.1.2)] :: sl true 3 1 ta 4 tc ((tot.set k (t + n)).map (Value.int .i64)) :: mapK (fun i : Int => Value.int .i64 i) true ibD [] :: mapK (fun i : Int => Value.int .i64 i) true gbD [] :: row true b3 62 [.int .i64 0, .int .i64 0, .int .i64 0, .int .i64 0, .int .i64 (-1), .int .i64 0, .slice ad 1 cap] :: sl true 145 3 y.1.1 (on_ + 1) y.1.2 (flat lotC (old ++ [(⟨sh * 4294967296 + (nf : Int), 0, n⟩ : LotM)])) :: sl true 141 11 y.2.1 1 y.2.2 [.int .i64 (sh * 4294967296 + (nf : Int)), .int .i64 (sh * 4294967296 + (ns : Int)), .int .i64 0, .int .i64 0, .int .i64 0, .int .i64 0, .int .i64 a, .int .i64 (k : Int), .int .i64 n, .slice none 0 0, .slice none 0 0] :: row true q 120 (ledRow sh nf ns W) :: sl true 62 7 W.sa ns W.sc xs :: sl p 59 5 ad 1 cap (flat moveC [(⟨0, a, (k : Int), n⟩ : MoveM)]) :: mapK plE true W.sb ms :: sl false 145 3 oa on_ oc (flat lotC old) :: sl true 3 1 W.ta 4 W.tc (tot.map (Value.int .i64)) :: F) (fun x => match x with | none => 1 | some _ => 0) (none) (trivial) (round := ?_)
  rintro x - N hN
  refine WK.seq ?_
  rcases x with _ | y
  ·
   dsimp only
   refine WK.region ?_
   refine Ly y_lss ?_
   refine WL.done ?_
   refine WK.seq ?_
   refine Kcond (ht := fun hc46 => ?_) (hf := fun hc46 => ?_)
   ·
    have hc46 := of_decide_eq_true hc46
    refine WK.skip ?_
    refine WK.seq ?_
    refine WK.block ?_
    refine WK.seq ?_
    refine WK.region ?_
    refine Ly (y_indexAddrS (hu := by exact Tryz.runUnderlying60) (hz := by exact Tryz.sizeOf59) (j := 0) (hi := by first | rfl | omega) (hj' := by omega) (hj := by omega)) ?_
    refine Ly (y_loadSA (ha := by exact Tryz.isAgg59) (hm := by exact Tryz.sizeOf59) (hv := (by exact flat_cells moveC_len (show [(⟨0, a, (k : Int), n⟩ : MoveM)][0]? = some (⟨0, a, (k : Int), n⟩ : MoveM) from rfl)))) ?_
    refine Le (e_alloc (by exact Tryz.zeroValue59)) ?_
    rintro b10 -
    try dsimp only
    refine Le0 (e_store (hk := by exact Tryz.sizeOf59) (h1 := by rfl)) ?_
    rintro _ -
    try dsimp only
    refine WL.done ?_
    refine WK.seq ?_
    refine WK.seq ?_
    refine WK.region ?_
    refine Ly y_move ?_
    refine Ly (y_loadA (ha := by exact Tryz.isAgg59) (hk := by exact Tryz.sizeOf59)) ?_
    refine Ly y_move ?_
    refine Le (e_call (by exact Tryz.call69) (t := perform_spec dq q (sh * 4294967296 + (ns : Int)) (.slice ad 1 cap) sbD ta tc ibD gbD true sh nf ns W ms a n k tot t oa on_ oc old hsh hnf ha hk4 hn1 ht ht1 hon hold hkk)) ?_
    rintro ⟨⟨la, lc⟩, fa, fc⟩ -
    try dsimp only
    refine Ly y_assign ?_
    refine WL.done ?_
    refine WK.seq ?_
    refine WK.region ?_
    refine Ly y_move ?_
    refine Ly y_neq ?_
    refine WL.done ?_
    refine Kcond (ht := fun h => by cases h) (hf := fun _ => ?_)
    refine WK.skip ?_
    refine WK.seq ?_
    refine Kdr (l := [(0, 0), (1, 0), (2, 0), (3, 0), (4, 0), (5, 0), (6, 0), (7, 0), (8, 0), (9, 0), (10, 0), (11, 0), (12, 1), (13, 2)]) (Cs := [row true dq 122 (draftRow q (sh * 4294967296 + (ns : Int)) (.slice ad 1 cap) sbD ta tc fa 1 fc ibD gbD), sl true 141 11 fa 1 fc [.int .i64 (sh * 4294967296 + (nf : Int)), .int .i64 (sh * 4294967296 + (ns : Int)), .int .i64 0, .int .i64 0, .int .i64 0, .int .i64 0, .int .i64 a, .int .i64 (k : Int), .int .i64 n, .slice none 0 0, .slice none 0 0]]) (h := ?_)
    refine Oy (y := y_move) (h := ?_)
    refine Oy (y := y_nilCheck) (h := ?_)
    refine Oy (y := y_fieldAddr (hu := by exact Tryz.runUnderlying122) (hs := by exact Tryz.sizeOf117)) (h := ?_)
    refine Oy (y := y_load (ha := by exact Tryz.isAgg117)) (h := ?_)
    refine Oy (y := y_move) (h := ?_)
    refine Oy (y := y_nilCheck) (h := ?_)
    refine Oy (y := y_fieldAddr (hu := by exact Tryz.runUnderlying122) (hs := by exact Tryz.sizeOf117)) (h := ?_)
    refine Oy (y := y_load (ha := by exact Tryz.isAgg117)) (h := ?_)
    refine Oy (y := y_len (hu := by exact Tryz.runUnderlying117)) (h := ?_)
    refine Oy (y := y_sub) (h := ?_)
    refine Oy (y := y_indexAddrS (hu := by exact Tryz.runUnderlying117) (hz := by exact Tryz.sizeOf141) (j := 0) (hi := by first | rfl | omega) (hj' := by omega) (hj := by omega)) (h := ?_)
    refine Oy (y := y_loadSA (ha := by exact Tryz.isAgg141) (hm := by exact Tryz.sizeOf141)) (h := ?_)
    refine Oe (e := e_alloc (by exact Tryz.zeroValue141)) (h := ?_)
    rintro b12 -
    try dsimp only
    refine Ob0 (e := e_store (hk := by exact Tryz.sizeOf141) (h1 := by rfl)) (h := ?_)
    rintro _ -
    try dsimp only
    refine WO.done ?_
    refine WK.seq ?_
    refine WK.region ?_
    refine Ly (y_fieldAddr (hu := by exact Tryz.runUnderlying141) (hs := by exact Tryz.sizeOf3)) ?_
    refine Ly (y_load (ha := by exact Tryz.isAgg3)) ?_
    refine Ly y_eql ?_
    refine Ly y_move ?_
    refine WL.split (d := 71) (by rfl) (fun hc71 => ?_) (fun hc71 => ?_)
    ·
     have hc71 := of_decide_eq_true hc71
     exfalso
     first | omega | (simp at hc71; done) | (simp at hc71; omega) | (simp_all; done) | (simp_all; omega)
    ·
     have hc71 := of_decide_eq_false hc71
     refine Lz ?_
     refine Lz ?_
     refine Lz ?_
     refine Lz ?_
     refine Lzu ?_
     refine Lzu ?_
     refine Lzu ?_
     refine Lz ?_
     refine Ly y_pick_false ?_
     refine WL.done ?_
     refine Kcond (ht := fun h => by cases h) (hf := fun _ => ?_)
     refine WK.skip ?_
     refine WK.endBlock ?_
     refine WK.region ?_
     refine Ly y_add ?_
     refine Ly y_move ?_
     refine WL.done ?_
     have hNx := hN (some ((la, lc), (fa, fc))) trivial (by dsimp only; decide)
     dsimp only at hNx
     exact WK.nextAt hNx (by repeat (first | exact KK.nil | refine KK.cons (by first | rfl | (simp; done)) ?_)) (by repeat (first | exact SelL.nil | exact SelL.self | apply SelL.cons | exact Sel.here | apply Sel.there | apply SelL.skip))
   ·
    have hc46 := of_decide_eq_false hc46
    exfalso
    omega
  ·
   dsimp only
   refine WK.region ?_
   refine Ly y_lss ?_
   refine WL.done ?_
   refine WK.seq ?_
   refine Kcond (ht := fun hc46 => ?_) (hf := fun hc46 => ?_)
   ·
    have hc46 := of_decide_eq_true hc46
    exfalso
    omega
   ·
    have hc46 := of_decide_eq_false hc46
    refine WK.exit ?_
    repeat (first | refine XQ.then_ ?_ | refine XQ.block (by rfl) ?_)
    refine XQ.here ?_
    refine WK.seq ?_
    refine WK.region ?_
    refine Ly y_move ?_
    refine Ly y_assign ?_
    refine Ly y_assign ?_
    refine WL.done ?_
    refine WK.ret ?_
    repeat (first | refine RQ.block ?_ | refine RQ.then_ ?_)
    refine RQ.body (results2 (by rfl) (by rfl) (by rfl)) (fun w s => ?_)
    exact ⟨⟨dq, sbD, ta, tc, ibD, gbD, y.1.1, y.1.2, y.2.1, y.2.2⟩, trivial, rfl, s.toCs (by repeat (first | exact SelL.nil | exact SelL.self | apply SelL.cons | exact Sel.here | apply Sel.there | apply SelL.skip))⟩
 ·
  intro JR4
  refine KdrT (t := OT.q 0 (OT.q 1 (OT.q 2 (OT.q 3 (OT.q 4 (OT.q 5 (OT.q 6 (OT.q 7 (OT.q 8 (OT.q 9 (OT.q 10 (OT.q 11 (OT.q 12 (OT.q 14 (OT.q 15 (OT.q 16 (OT.q 17 (OT.alt 13 (OT.alt 18 (OT.alt 19 (OT.e 20 (OT.q 21 (OT.e 22 (OT.q 23 OT.done)))) (OT.alt 20 (OT.e 19 (OT.q 21 (OT.e 22 (OT.q 23 OT.done)))) OT.stop)) (OT.alt 19 (OT.alt 18 (OT.e 20 (OT.q 21 (OT.e 22 (OT.q 23 OT.done)))) (OT.alt 20 (OT.e 18 (OT.q 21 (OT.e 22 (OT.q 23 OT.done)))) OT.stop)) (OT.alt 20 (OT.alt 18 (OT.e 19 (OT.q 21 (OT.e 22 (OT.q 23 OT.done)))) (OT.alt 19 (OT.e 18 (OT.q 21 (OT.e 22 (OT.q 23 OT.done)))) OT.stop)) OT.stop))) (OT.alt 18 (OT.alt 13 (OT.alt 19 (OT.e 20 (OT.q 21 (OT.e 22 (OT.q 23 OT.done)))) (OT.alt 20 (OT.e 19 (OT.q 21 (OT.e 22 (OT.q 23 OT.done)))) OT.stop)) (OT.alt 19 (OT.alt 13 (OT.e 20 (OT.q 21 (OT.e 22 (OT.q 23 OT.done)))) (OT.alt 20 (OT.e 13 (OT.q 21 (OT.e 22 (OT.q 23 OT.done)))) OT.stop)) (OT.alt 20 (OT.alt 13 (OT.e 19 (OT.q 21 (OT.e 22 (OT.q 23 OT.done)))) (OT.alt 19 (OT.e 13 (OT.q 21 (OT.e 22 (OT.q 23 OT.done)))) OT.stop)) OT.stop))) (OT.alt 19 (OT.alt 13 (OT.alt 18 (OT.e 20 (OT.q 21 (OT.e 22 (OT.q 23 OT.done)))) (OT.alt 20 (OT.e 18 (OT.q 21 (OT.e 22 (OT.q 23 OT.done)))) OT.stop)) (OT.alt 18 (OT.alt 13 (OT.e 20 (OT.q 21 (OT.e 22 (OT.q 23 OT.done)))) (OT.alt 20 (OT.e 13 (OT.q 21 (OT.e 22 (OT.q 23 OT.done)))) OT.stop)) (OT.alt 20 (OT.alt 13 (OT.e 18 (OT.q 21 (OT.e 22 (OT.q 23 OT.done)))) (OT.alt 18 (OT.e 13 (OT.q 21 (OT.e 22 (OT.q 23 OT.done)))) OT.stop)) OT.stop))) (OT.alt 20 (OT.alt 13 (OT.alt 18 (OT.e 19 (OT.q 21 (OT.e 22 (OT.q 23 OT.done)))) (OT.alt 19 (OT.e 18 (OT.q 21 (OT.e 22 (OT.q 23 OT.done)))) OT.stop)) (OT.alt 18 (OT.alt 13 (OT.e 19 (OT.q 21 (OT.e 22 (OT.q 23 OT.done)))) (OT.alt 19 (OT.e 13 (OT.q 21 (OT.e 22 (OT.q 23 OT.done)))) OT.stop)) (OT.alt 19 (OT.alt 13 (OT.e 18 (OT.q 21 (OT.e 22 (OT.q 23 OT.done)))) (OT.alt 18 (OT.e 13 (OT.q 21 (OT.e 22 (OT.q 23 OT.done)))) OT.stop)) OT.stop))) OT.stop))))))))))))))))))))) (Cs := [row true b3 62 [.int .i64 0, .int .i64 0, .int .i64 0, .int .i64 0, .int .i64 (-1), .int .i64 0, .slice ad 1 cap], row true q 120 (ledRow sh nf ns W), sl true 3 1 W.ta 4 W.tc (tot.map (Value.int .i64))]) (h := ?_)
  refine Ty (y := y_move) (h := ?_)
  refine Ty (y := y_move) (h := ?_)
  refine Ty (y := y_nilCheck) (h := ?_)
  refine Ty (y := y_fieldAddr (hu := by exact Tryz.runUnderlying120) (hs := by exact Tryz.sizeOf3)) (h := ?_)
  refine Ty (y := y_load (ha := by exact Tryz.isAgg3)) (h := ?_)
  refine Ty (y := y_shl (hr := show IntKind.i64.wrap (sh * 2 ^ (min ((32 : Int)).toNat IntKind.i64.bits)) = sh * 4294967296 from by rw [show (2 : Int) ^ (min ((32 : Int)).toNat IntKind.i64.bits) = 4294967296 from by decide]; exact w64 (by omega) (by omega))) (h := ?_)
  refine Ty (y := y_move) (h := ?_)
  refine Ty (y := y_nilCheck) (h := ?_)
  refine Ty (y := y_fieldAddr (hu := by exact Tryz.runUnderlying120) (hs := by exact Tryz.sizeOf108)) (h := ?_)
  refine Ty (y := y_load (ha := by exact Tryz.isAgg108)) (h := ?_)
  refine Ty (y := y_len (hu := by exact Tryz.runUnderlying108)) (h := ?_)
  refine Ty (y := y_add) (h := ?_)
  refine Ty (y := y_loadA (ha := by exact Tryz.isAgg62) (hk := by exact Tryz.sizeOf62)) (h := ?_)
  refine Ty (y := y_move) (h := ?_)
  refine Ty (y := y_nilCheck) (h := ?_)
  refine Ty (y := y_fieldAddr (hu := by exact Tryz.runUnderlying120) (hs := by exact Tryz.sizeOf22)) (h := ?_)
  refine Ty (y := y_load (ha := by exact Tryz.isAgg22)) (h := ?_)
  refine WT.alt ?_ ?_
  ·
   refine Te (e := e_makeMap) (h := ?_)
   rintro b32 -
   try dsimp only
   refine WT.alt ?_ ?_
   ·
    refine Te (e := e_call (by exact Tryz.call46) (t := clone_int true W.ta 4 W.tc tot (by decide))) (h := ?_)
    rintro ⟨ad37, cap37⟩ -
    try dsimp only
    refine WT.alt ?_ ?_
    ·
     refine Te (e := e_makeMap) (h := ?_)
     rintro b38 -
     try dsimp only
     refine Te (e := e_makeMap) (h := ?_)
     rintro b39 -
     try dsimp only
     refine Ty (y := y_build (hz := by exact Tryz.zeroValue122) (hu := by exact Tryz.runUnderlying122) (hp := by exact fun w => places122 w Tryz.underlying122) (hne := by first | decide | simp)) (h := ?_)
     refine Te (e := e_box) (h := ?_)
     rintro b41 -
     try dsimp only
     refine Ty (y := y_assign) (h := ?_)
     refine WT.done ?_
     exact Kgoto JR4 (b41, b32, (ad37, cap37), b38, b39) trivial
    refine WT.alt ?_ ?_
    ·
     refine Te (e := e_makeMap) (h := ?_)
     rintro b39 -
     try dsimp only
     refine Te (e := e_makeMap) (h := ?_)
     rintro b38 -
     try dsimp only
     refine Ty (y := y_build (hz := by exact Tryz.zeroValue122) (hu := by exact Tryz.runUnderlying122) (hp := by exact fun w => places122 w Tryz.underlying122) (hne := by first | decide | simp)) (h := ?_)
     refine Te (e := e_box) (h := ?_)
     rintro b41 -
     try dsimp only
     refine Ty (y := y_assign) (h := ?_)
     refine WT.done ?_
     exact Kgoto JR4 (b41, b32, (ad37, cap37), b38, b39) trivial
    exact WT.stop
   refine WT.alt ?_ ?_
   ·
    refine Te (e := e_makeMap) (h := ?_)
    rintro b38 -
    try dsimp only
    refine WT.alt ?_ ?_
    ·
     refine Te (e := e_call (by exact Tryz.call46) (t := clone_int true W.ta 4 W.tc tot (by decide))) (h := ?_)
     rintro ⟨ad37, cap37⟩ -
     try dsimp only
     refine Te (e := e_makeMap) (h := ?_)
     rintro b39 -
     try dsimp only
     refine Ty (y := y_build (hz := by exact Tryz.zeroValue122) (hu := by exact Tryz.runUnderlying122) (hp := by exact fun w => places122 w Tryz.underlying122) (hne := by first | decide | simp)) (h := ?_)
     refine Te (e := e_box) (h := ?_)
     rintro b41 -
     try dsimp only
     refine Ty (y := y_assign) (h := ?_)
     refine WT.done ?_
     exact Kgoto JR4 (b41, b32, (ad37, cap37), b38, b39) trivial
    refine WT.alt ?_ ?_
    ·
     refine Te (e := e_makeMap) (h := ?_)
     rintro b39 -
     try dsimp only
     refine Te (e := e_call (by exact Tryz.call46) (t := clone_int true W.ta 4 W.tc tot (by decide))) (h := ?_)
     rintro ⟨ad37, cap37⟩ -
     try dsimp only
     refine Ty (y := y_build (hz := by exact Tryz.zeroValue122) (hu := by exact Tryz.runUnderlying122) (hp := by exact fun w => places122 w Tryz.underlying122) (hne := by first | decide | simp)) (h := ?_)
     refine Te (e := e_box) (h := ?_)
     rintro b41 -
     try dsimp only
     refine Ty (y := y_assign) (h := ?_)
     refine WT.done ?_
     exact Kgoto JR4 (b41, b32, (ad37, cap37), b38, b39) trivial
    exact WT.stop
   refine WT.alt ?_ ?_
   ·
    refine Te (e := e_makeMap) (h := ?_)
    rintro b39 -
    try dsimp only
    refine WT.alt ?_ ?_
    ·
     refine Te (e := e_call (by exact Tryz.call46) (t := clone_int true W.ta 4 W.tc tot (by decide))) (h := ?_)
     rintro ⟨ad37, cap37⟩ -
     try dsimp only
     refine Te (e := e_makeMap) (h := ?_)
     rintro b38 -
     try dsimp only
     refine Ty (y := y_build (hz := by exact Tryz.zeroValue122) (hu := by exact Tryz.runUnderlying122) (hp := by exact fun w => places122 w Tryz.underlying122) (hne := by first | decide | simp)) (h := ?_)
     refine Te (e := e_box) (h := ?_)
     rintro b41 -
     try dsimp only
     refine Ty (y := y_assign) (h := ?_)
     refine WT.done ?_
     exact Kgoto JR4 (b41, b32, (ad37, cap37), b38, b39) trivial
    refine WT.alt ?_ ?_
    ·
     refine Te (e := e_makeMap) (h := ?_)
     rintro b38 -
     try dsimp only
     refine Te (e := e_call (by exact Tryz.call46) (t := clone_int true W.ta 4 W.tc tot (by decide))) (h := ?_)
     rintro ⟨ad37, cap37⟩ -
     try dsimp only
     refine Ty (y := y_build (hz := by exact Tryz.zeroValue122) (hu := by exact Tryz.runUnderlying122) (hp := by exact fun w => places122 w Tryz.underlying122) (hne := by first | decide | simp)) (h := ?_)
     refine Te (e := e_box) (h := ?_)
     rintro b41 -
     try dsimp only
     refine Ty (y := y_assign) (h := ?_)
     refine WT.done ?_
     exact Kgoto JR4 (b41, b32, (ad37, cap37), b38, b39) trivial
    exact WT.stop
   exact WT.stop
  refine WT.alt ?_ ?_
  ·
   refine Te (e := e_call (by exact Tryz.call46) (t := clone_int true W.ta 4 W.tc tot (by decide))) (h := ?_)
   rintro ⟨ad37, cap37⟩ -
   try dsimp only
   refine WT.alt ?_ ?_
   ·
    refine Te (e := e_makeMap) (h := ?_)
    rintro b32 -
    try dsimp only
    refine WT.alt ?_ ?_
    ·
     refine Te (e := e_makeMap) (h := ?_)
     rintro b38 -
     try dsimp only
     refine Te (e := e_makeMap) (h := ?_)
     rintro b39 -
     try dsimp only
     refine Ty (y := y_build (hz := by exact Tryz.zeroValue122) (hu := by exact Tryz.runUnderlying122) (hp := by exact fun w => places122 w Tryz.underlying122) (hne := by first | decide | simp)) (h := ?_)
     refine Te (e := e_box) (h := ?_)
     rintro b41 -
     try dsimp only
     refine Ty (y := y_assign) (h := ?_)
     refine WT.done ?_
     exact Kgoto JR4 (b41, b32, (ad37, cap37), b38, b39) trivial
    refine WT.alt ?_ ?_
    ·
     refine Te (e := e_makeMap) (h := ?_)
     rintro b39 -
     try dsimp only
     refine Te (e := e_makeMap) (h := ?_)
     rintro b38 -
     try dsimp only
     refine Ty (y := y_build (hz := by exact Tryz.zeroValue122) (hu := by exact Tryz.runUnderlying122) (hp := by exact fun w => places122 w Tryz.underlying122) (hne := by first | decide | simp)) (h := ?_)
     refine Te (e := e_box) (h := ?_)
     rintro b41 -
     try dsimp only
     refine Ty (y := y_assign) (h := ?_)
     refine WT.done ?_
     exact Kgoto JR4 (b41, b32, (ad37, cap37), b38, b39) trivial
    exact WT.stop
   refine WT.alt ?_ ?_
   ·
    refine Te (e := e_makeMap) (h := ?_)
    rintro b38 -
    try dsimp only
    refine WT.alt ?_ ?_
    ·
     refine Te (e := e_makeMap) (h := ?_)
     rintro b32 -
     try dsimp only
     refine Te (e := e_makeMap) (h := ?_)
     rintro b39 -
     try dsimp only
     refine Ty (y := y_build (hz := by exact Tryz.zeroValue122) (hu := by exact Tryz.runUnderlying122) (hp := by exact fun w => places122 w Tryz.underlying122) (hne := by first | decide | simp)) (h := ?_)
     refine Te (e := e_box) (h := ?_)
     rintro b41 -
     try dsimp only
     refine Ty (y := y_assign) (h := ?_)
     refine WT.done ?_
     exact Kgoto JR4 (b41, b32, (ad37, cap37), b38, b39) trivial
    refine WT.alt ?_ ?_
    ·
     refine Te (e := e_makeMap) (h := ?_)
     rintro b39 -
     try dsimp only
     refine Te (e := e_makeMap) (h := ?_)
     rintro b32 -
     try dsimp only
     refine Ty (y := y_build (hz := by exact Tryz.zeroValue122) (hu := by exact Tryz.runUnderlying122) (hp := by exact fun w => places122 w Tryz.underlying122) (hne := by first | decide | simp)) (h := ?_)
     refine Te (e := e_box) (h := ?_)
     rintro b41 -
     try dsimp only
     refine Ty (y := y_assign) (h := ?_)
     refine WT.done ?_
     exact Kgoto JR4 (b41, b32, (ad37, cap37), b38, b39) trivial
    exact WT.stop
   refine WT.alt ?_ ?_
   ·
    refine Te (e := e_makeMap) (h := ?_)
    rintro b39 -
    try dsimp only
    refine WT.alt ?_ ?_
    ·
     refine Te (e := e_makeMap) (h := ?_)
     rintro b32 -
     try dsimp only
     refine Te (e := e_makeMap) (h := ?_)
     rintro b38 -
     try dsimp only
     refine Ty (y := y_build (hz := by exact Tryz.zeroValue122) (hu := by exact Tryz.runUnderlying122) (hp := by exact fun w => places122 w Tryz.underlying122) (hne := by first | decide | simp)) (h := ?_)
     refine Te (e := e_box) (h := ?_)
     rintro b41 -
     try dsimp only
     refine Ty (y := y_assign) (h := ?_)
     refine WT.done ?_
     exact Kgoto JR4 (b41, b32, (ad37, cap37), b38, b39) trivial
    refine WT.alt ?_ ?_
    ·
     refine Te (e := e_makeMap) (h := ?_)
     rintro b38 -
     try dsimp only
     refine Te (e := e_makeMap) (h := ?_)
     rintro b32 -
     try dsimp only
     refine Ty (y := y_build (hz := by exact Tryz.zeroValue122) (hu := by exact Tryz.runUnderlying122) (hp := by exact fun w => places122 w Tryz.underlying122) (hne := by first | decide | simp)) (h := ?_)
     refine Te (e := e_box) (h := ?_)
     rintro b41 -
     try dsimp only
     refine Ty (y := y_assign) (h := ?_)
     refine WT.done ?_
     exact Kgoto JR4 (b41, b32, (ad37, cap37), b38, b39) trivial
    exact WT.stop
   exact WT.stop
  refine WT.alt ?_ ?_
  ·
   refine Te (e := e_makeMap) (h := ?_)
   rintro b38 -
   try dsimp only
   refine WT.alt ?_ ?_
   ·
    refine Te (e := e_makeMap) (h := ?_)
    rintro b32 -
    try dsimp only
    refine WT.alt ?_ ?_
    ·
     refine Te (e := e_call (by exact Tryz.call46) (t := clone_int true W.ta 4 W.tc tot (by decide))) (h := ?_)
     rintro ⟨ad37, cap37⟩ -
     try dsimp only
     refine Te (e := e_makeMap) (h := ?_)
     rintro b39 -
     try dsimp only
     refine Ty (y := y_build (hz := by exact Tryz.zeroValue122) (hu := by exact Tryz.runUnderlying122) (hp := by exact fun w => places122 w Tryz.underlying122) (hne := by first | decide | simp)) (h := ?_)
     refine Te (e := e_box) (h := ?_)
     rintro b41 -
     try dsimp only
     refine Ty (y := y_assign) (h := ?_)
     refine WT.done ?_
     exact Kgoto JR4 (b41, b32, (ad37, cap37), b38, b39) trivial
    refine WT.alt ?_ ?_
    ·
     refine Te (e := e_makeMap) (h := ?_)
     rintro b39 -
     try dsimp only
     refine Te (e := e_call (by exact Tryz.call46) (t := clone_int true W.ta 4 W.tc tot (by decide))) (h := ?_)
     rintro ⟨ad37, cap37⟩ -
     try dsimp only
     refine Ty (y := y_build (hz := by exact Tryz.zeroValue122) (hu := by exact Tryz.runUnderlying122) (hp := by exact fun w => places122 w Tryz.underlying122) (hne := by first | decide | simp)) (h := ?_)
     refine Te (e := e_box) (h := ?_)
     rintro b41 -
     try dsimp only
     refine Ty (y := y_assign) (h := ?_)
     refine WT.done ?_
     exact Kgoto JR4 (b41, b32, (ad37, cap37), b38, b39) trivial
    exact WT.stop
   refine WT.alt ?_ ?_
   ·
    refine Te (e := e_call (by exact Tryz.call46) (t := clone_int true W.ta 4 W.tc tot (by decide))) (h := ?_)
    rintro ⟨ad37, cap37⟩ -
    try dsimp only
    refine WT.alt ?_ ?_
    ·
     refine Te (e := e_makeMap) (h := ?_)
     rintro b32 -
     try dsimp only
     refine Te (e := e_makeMap) (h := ?_)
     rintro b39 -
     try dsimp only
     refine Ty (y := y_build (hz := by exact Tryz.zeroValue122) (hu := by exact Tryz.runUnderlying122) (hp := by exact fun w => places122 w Tryz.underlying122) (hne := by first | decide | simp)) (h := ?_)
     refine Te (e := e_box) (h := ?_)
     rintro b41 -
     try dsimp only
     refine Ty (y := y_assign) (h := ?_)
     refine WT.done ?_
     exact Kgoto JR4 (b41, b32, (ad37, cap37), b38, b39) trivial
    refine WT.alt ?_ ?_
    ·
     refine Te (e := e_makeMap) (h := ?_)
     rintro b39 -
     try dsimp only
     refine Te (e := e_makeMap) (h := ?_)
     rintro b32 -
     try dsimp only
     refine Ty (y := y_build (hz := by exact Tryz.zeroValue122) (hu := by exact Tryz.runUnderlying122) (hp := by exact fun w => places122 w Tryz.underlying122) (hne := by first | decide | simp)) (h := ?_)
     refine Te (e := e_box) (h := ?_)
     rintro b41 -
     try dsimp only
     refine Ty (y := y_assign) (h := ?_)
     refine WT.done ?_
     exact Kgoto JR4 (b41, b32, (ad37, cap37), b38, b39) trivial
    exact WT.stop
   refine WT.alt ?_ ?_
   ·
    refine Te (e := e_makeMap) (h := ?_)
    rintro b39 -
    try dsimp only
    refine WT.alt ?_ ?_
    ·
     refine Te (e := e_makeMap) (h := ?_)
     rintro b32 -
     try dsimp only
     refine Te (e := e_call (by exact Tryz.call46) (t := clone_int true W.ta 4 W.tc tot (by decide))) (h := ?_)
     rintro ⟨ad37, cap37⟩ -
     try dsimp only
     refine Ty (y := y_build (hz := by exact Tryz.zeroValue122) (hu := by exact Tryz.runUnderlying122) (hp := by exact fun w => places122 w Tryz.underlying122) (hne := by first | decide | simp)) (h := ?_)
     refine Te (e := e_box) (h := ?_)
     rintro b41 -
     try dsimp only
     refine Ty (y := y_assign) (h := ?_)
     refine WT.done ?_
     exact Kgoto JR4 (b41, b32, (ad37, cap37), b38, b39) trivial
    refine WT.alt ?_ ?_
    ·
     refine Te (e := e_call (by exact Tryz.call46) (t := clone_int true W.ta 4 W.tc tot (by decide))) (h := ?_)
     rintro ⟨ad37, cap37⟩ -
     try dsimp only
     refine Te (e := e_makeMap) (h := ?_)
     rintro b32 -
     try dsimp only
     refine Ty (y := y_build (hz := by exact Tryz.zeroValue122) (hu := by exact Tryz.runUnderlying122) (hp := by exact fun w => places122 w Tryz.underlying122) (hne := by first | decide | simp)) (h := ?_)
     refine Te (e := e_box) (h := ?_)
     rintro b41 -
     try dsimp only
     refine Ty (y := y_assign) (h := ?_)
     refine WT.done ?_
     exact Kgoto JR4 (b41, b32, (ad37, cap37), b38, b39) trivial
    exact WT.stop
   exact WT.stop
  refine WT.alt ?_ ?_
  ·
   refine Te (e := e_makeMap) (h := ?_)
   rintro b39 -
   try dsimp only
   refine WT.alt ?_ ?_
   ·
    refine Te (e := e_makeMap) (h := ?_)
    rintro b32 -
    try dsimp only
    refine WT.alt ?_ ?_
    ·
     refine Te (e := e_call (by exact Tryz.call46) (t := clone_int true W.ta 4 W.tc tot (by decide))) (h := ?_)
     rintro ⟨ad37, cap37⟩ -
     try dsimp only
     refine Te (e := e_makeMap) (h := ?_)
     rintro b38 -
     try dsimp only
     refine Ty (y := y_build (hz := by exact Tryz.zeroValue122) (hu := by exact Tryz.runUnderlying122) (hp := by exact fun w => places122 w Tryz.underlying122) (hne := by first | decide | simp)) (h := ?_)
     refine Te (e := e_box) (h := ?_)
     rintro b41 -
     try dsimp only
     refine Ty (y := y_assign) (h := ?_)
     refine WT.done ?_
     exact Kgoto JR4 (b41, b32, (ad37, cap37), b38, b39) trivial
    refine WT.alt ?_ ?_
    ·
     refine Te (e := e_makeMap) (h := ?_)
     rintro b38 -
     try dsimp only
     refine Te (e := e_call (by exact Tryz.call46) (t := clone_int true W.ta 4 W.tc tot (by decide))) (h := ?_)
     rintro ⟨ad37, cap37⟩ -
     try dsimp only
     refine Ty (y := y_build (hz := by exact Tryz.zeroValue122) (hu := by exact Tryz.runUnderlying122) (hp := by exact fun w => places122 w Tryz.underlying122) (hne := by first | decide | simp)) (h := ?_)
     refine Te (e := e_box) (h := ?_)
     rintro b41 -
     try dsimp only
     refine Ty (y := y_assign) (h := ?_)
     refine WT.done ?_
     exact Kgoto JR4 (b41, b32, (ad37, cap37), b38, b39) trivial
    exact WT.stop
   refine WT.alt ?_ ?_
   ·
    refine Te (e := e_call (by exact Tryz.call46) (t := clone_int true W.ta 4 W.tc tot (by decide))) (h := ?_)
    rintro ⟨ad37, cap37⟩ -
    try dsimp only
    refine WT.alt ?_ ?_
    ·
     refine Te (e := e_makeMap) (h := ?_)
     rintro b32 -
     try dsimp only
     refine Te (e := e_makeMap) (h := ?_)
     rintro b38 -
     try dsimp only
     refine Ty (y := y_build (hz := by exact Tryz.zeroValue122) (hu := by exact Tryz.runUnderlying122) (hp := by exact fun w => places122 w Tryz.underlying122) (hne := by first | decide | simp)) (h := ?_)
     refine Te (e := e_box) (h := ?_)
     rintro b41 -
     try dsimp only
     refine Ty (y := y_assign) (h := ?_)
     refine WT.done ?_
     exact Kgoto JR4 (b41, b32, (ad37, cap37), b38, b39) trivial
    refine WT.alt ?_ ?_
    ·
     refine Te (e := e_makeMap) (h := ?_)
     rintro b38 -
     try dsimp only
     refine Te (e := e_makeMap) (h := ?_)
     rintro b32 -
     try dsimp only
     refine Ty (y := y_build (hz := by exact Tryz.zeroValue122) (hu := by exact Tryz.runUnderlying122) (hp := by exact fun w => places122 w Tryz.underlying122) (hne := by first | decide | simp)) (h := ?_)
     refine Te (e := e_box) (h := ?_)
     rintro b41 -
     try dsimp only
     refine Ty (y := y_assign) (h := ?_)
     refine WT.done ?_
     exact Kgoto JR4 (b41, b32, (ad37, cap37), b38, b39) trivial
    exact WT.stop
   refine WT.alt ?_ ?_
   ·
    refine Te (e := e_makeMap) (h := ?_)
    rintro b38 -
    try dsimp only
    refine WT.alt ?_ ?_
    ·
     refine Te (e := e_makeMap) (h := ?_)
     rintro b32 -
     try dsimp only
     refine Te (e := e_call (by exact Tryz.call46) (t := clone_int true W.ta 4 W.tc tot (by decide))) (h := ?_)
     rintro ⟨ad37, cap37⟩ -
     try dsimp only
     refine Ty (y := y_build (hz := by exact Tryz.zeroValue122) (hu := by exact Tryz.runUnderlying122) (hp := by exact fun w => places122 w Tryz.underlying122) (hne := by first | decide | simp)) (h := ?_)
     refine Te (e := e_box) (h := ?_)
     rintro b41 -
     try dsimp only
     refine Ty (y := y_assign) (h := ?_)
     refine WT.done ?_
     exact Kgoto JR4 (b41, b32, (ad37, cap37), b38, b39) trivial
    refine WT.alt ?_ ?_
    ·
     refine Te (e := e_call (by exact Tryz.call46) (t := clone_int true W.ta 4 W.tc tot (by decide))) (h := ?_)
     rintro ⟨ad37, cap37⟩ -
     try dsimp only
     refine Te (e := e_makeMap) (h := ?_)
     rintro b32 -
     try dsimp only
     refine Ty (y := y_build (hz := by exact Tryz.zeroValue122) (hu := by exact Tryz.runUnderlying122) (hp := by exact fun w => places122 w Tryz.underlying122) (hne := by first | decide | simp)) (h := ?_)
     refine Te (e := e_box) (h := ?_)
     rintro b41 -
     try dsimp only
     refine Ty (y := y_assign) (h := ?_)
     refine WT.done ?_
     exact Kgoto JR4 (b41, b32, (ad37, cap37), b38, b39) trivial
    exact WT.stop
   exact WT.stop
  exact WT.stop
end Go.Proofs.YtkakfmcjiabjjaaGreatDoor
