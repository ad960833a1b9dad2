import Derived.Test.YtkakfmcjiabjjaaGreatDoorLedC
namespace Go.Proofs.YtkakfmcjiabjjaaGreatDoor
set_option linter.unusedVariables false
set_option linter.unusedSimpArgs false
set_option linter.unusedSectionVars false
set_option linter.unnecessarySimpa false
open Go Go.Sep
attribute [local irreducible] row sl mapO held exL allR byt mapI slr mapK rangeK vec pack
set_option maxRecDepth 20000 in
set_option maxHeartbeats 2000000 in
theorem copyPl_spec (d s0 : Nat) (m : List ((Int × Int) × Value)) (k : Int × Int) (v : Value) :
  Triple Tryz.prog 53 #[.map (some d), .map (some s0)] [mapK plE true d m, mapK plE true s0 [(k, v)]] (Unit) (fun _ => True) (fun _ => .tuple #[]) (fun _ => [mapK plE true d (kset m k v), mapK plE true s0 [(k, v)]]) := by
 refine Triple.of_body (args := [.map (some d), .map (some s0)]) Tryz.func53 rfl Tryz.ntmps53 (by simp) (fun g F => ?_)
 dsimp only [numb, List.cons_append, List.nil_append]
 refine WK.seq ?_
 refine WK.region ?_
 refine Ly y_move ?_
 refine Le (e_rangeK (hu := Tryz.runUnderlying114)) ?_
 rintro it7 -
 try dsimp only
 refine WL.done ?_
 refine WK.block ?_
 refine Kloop (ι := Bool) (fun _ => True) (fun _ => [(0, .map (some d)), (7, .pointer (some ⟨it7, 0, none⟩))]) (fun x => (bif x then mapK plE true d (kset m k v) else mapK plE true d m) :: (bif x then rangeK plE true s0 it7 [(k, v)] [] (some (k, v)) else rangeK plE true s0 it7 [(k, v)] [(k, v)] none) :: F) (fun x => bif x then 0 else 1) (false) (trivial) (round := ?_)
 rintro x - N hN
 refine WK.seq ?_
 rcases x with _ | _
 ·
  dsimp only [cond]
  refine WK.region ?_
  refine Le e_nextK ?_
  rintro x8 hx8
  obtain rfl : x8 = some (0, k, v) := by
    rcases x8 with _ | ⟨i, k2, v2⟩
    · cases hx8
    · cases i with
      | zero => cases hx8; rfl
      | succ i => simp at hx8
  dsimp only [List.eraseIdx]
  try dsimp only
  refine Ly y_extract ?_
  refine WL.done ?_
  refine WK.seq ?_
  refine Kcond (ht := fun _ => ?_) (hf := fun h => by cases h)
  refine WK.skip ?_
  refine WK.block ?_
  refine WK.seq ?_
  refine WK.region ?_
  refine Ly y_entryK ?_
  refine Ly y_extract ?_
  refine Ly y_extract ?_
  refine Le (e_alloc (by exact Tryz.zeroValue116)) ?_
  rintro b4 -
  try dsimp only
  refine Le0 (e_store (hk := by exact Tryz.sizeOf116) (h1 := by rfl)) ?_
  rintro _ -
  try dsimp only
  refine Ly y_assign ?_
  refine WL.done ?_
  refine WK.region ?_
  refine Ly y_move ?_
  refine Ly (y_loadA (ha := by exact Tryz.isAgg116) (hk := by exact Tryz.sizeOf116)) ?_
  refine Ly y_move ?_
  refine Le0 (e_mapUpdateK (k := k) (hu := by exact Tryz.runUnderlying114) (L := plLaw)) ?_
  rintro _ -
  try dsimp only
  refine WL.done ?_
  refine WK.endBlock ?_
  have hNx := hN true trivial (by decide)
  dsimp only [cond] at hNx
  exact WK.nextAt hNx (by repeat (first | exact KK.nil | refine KK.cons (by first | rfl | (simp; done)) ?_)) (by repeat (first | exact SelL.nil | exact SelL.self | apply SelL.cons | exact Sel.here | apply Sel.there | apply SelL.skip))
 ·
  dsimp only [cond]
  refine WK.region ?_
  refine Le e_nextK ?_
  rintro x8 hx8
  obtain rfl : x8 = none := by
    rcases x8 with _ | ⟨i, k2, v2⟩
    · rfl
    · simp at hx8
  dsimp only
  try dsimp only
  refine Ly y_extract ?_
  refine WL.done ?_
  refine WK.seq ?_
  refine Kcond (ht := fun h => by cases h) (hf := fun _ => ?_)
  refine WK.exit ?_
  repeat (first | refine XQ.then_ ?_ | refine XQ.block (by rfl) ?_)
  refine XQ.here ?_
  refine WK.fall (results0 (by rfl)) (fun w s => ?_)
  refine ⟨(), trivial, rfl, ?_⟩
  have s2 := Sat.rangeEndK (s.sel1 (A := rangeK plE true s0 it7 [(k, v)] [] (some (k, v))) (by repeat (first | exact .here | apply Sel.there)))
  exact s2.toCs (by repeat (first | exact SelL.nil | exact SelL.self | apply SelL.cons | exact Sel.here | apply Sel.there | apply SelL.skip))
set_option maxRecDepth 20000 in
set_option maxHeartbeats 2000000 in
theorem copyI_spec (d s0 : Nat) :
  Triple Tryz.prog 54 #[.map (some d), .map (some s0)] [mapK (fun i : Int => Value.int .i64 i) true d [], mapK (fun i : Int => Value.int .i64 i) true s0 []] (Unit) (fun _ => True) (fun _ => .tuple #[]) (fun _ => [mapK (fun i : Int => Value.int .i64 i) true d [], mapK (fun i : Int => Value.int .i64 i) true s0 []]) := by
 refine Triple.of_body (args := [.map (some d), .map (some s0)]) Tryz.func54 rfl Tryz.ntmps54 (by simp) (fun g F => ?_)
 dsimp only [numb, List.cons_append, List.nil_append]
 refine WK.seq ?_
 refine WK.region ?_
 refine Ly y_move ?_
 refine Le (e_rangeK (hu := Tryz.runUnderlying118)) ?_
 rintro it7 -
 try dsimp only
 refine WL.done ?_
 refine WK.block ?_
 refine Kloop (ι := Unit) (fun _ => True) (fun _ => [(0, .map (some d)), (7, .pointer (some ⟨it7, 0, none⟩))]) (fun x => mapK (fun i : Int => Value.int .i64 i) true d [] :: rangeK (fun i : Int => Value.int .i64 i) true s0 it7 [] [] none :: F) (fun x => 0) (()) (trivial) (round := ?_)
 rintro x - N hN
 refine WK.seq ?_
 refine WK.region ?_
 refine Le e_nextK ?_
 rintro x8 hx8
 obtain rfl : x8 = none := by
   rcases x8 with _ | ⟨i, k2, v2⟩
   · rfl
   · simp at hx8
 dsimp only
 try dsimp only
 refine Ly y_extract ?_
 refine WL.done ?_
 refine WK.seq ?_
 refine Kcond (ht := fun h => by cases h) (hf := fun _ => ?_)
 refine WK.exit ?_
 repeat (first | refine XQ.then_ ?_ | refine XQ.block (by rfl) ?_)
 refine XQ.here ?_
 refine WK.fall (results0 (by rfl)) (fun w s => ?_)
 refine ⟨(), trivial, rfl, ?_⟩
 have s2 := Sat.rangeEndK (s.sel1 (A := rangeK (fun i : Int => Value.int .i64 i) true s0 it7 [] [] none) (by repeat (first | exact .here | apply Sel.there)))
 exact s2.toCs (by repeat (first | exact SelL.nil | exact SelL.self | apply SelL.cons | exact Sel.here | apply Sel.there | apply SelL.skip))
set_option maxRecDepth 20000 in
set_option maxHeartbeats 1000000 in
theorem clone_move (p : Bool) (ad : Option Addr) (len cap : Nat) (l : List MoveM) (hlen : len ≤ 1000000) :
  Triple Tryz.prog 70 #[.slice ad len cap] [sl p 59 5 ad len cap (flat moveC l)] (Option Addr × Nat) (fun x => ad = none → x = (none, 0)) (fun x => .slice x.1 len x.2) (fun x => [sl true 59 5 x.1 len x.2 (flat moveC l), sl p 59 5 ad len cap (flat moveC l)]) := by
 refine Triple.of_body (args := [.slice ad len cap]) Tryz.func70 rfl Tryz.ntmps70 (by simp) (fun g F => ?_)
 dsimp only [numb, List.cons_append, List.nil_append]
 refine WK.seq ?_
 refine WK.region ?_
 refine Ly y_assign ?_
 refine WL.done ?_
 refine WK.seq ?_
 refine WK.seq ?_
 refine WK.region ?_
 refine Ly y_move ?_
 refine Ly (y_eqlNilS (hu := by exact Tryz.runUnderlying60)) ?_
 refine WL.done ?_
 refine Kcond (ht := fun hc4 => ?_) (hf := fun hc4 => ?_)
 ·
  obtain rfl : ad = none := by cases ad <;> simp_all
  refine WK.know (fun w s => Sat.slNone (s.sel1 (A := sl p 59 5 none len cap (flat moveC l)) (by repeat (first | exact .here | apply Sel.there)))) (fun hkn => ?_)
  obtain ⟨rfl, hxs⟩ := hkn
  refine WK.seq ?_
  refine WK.region ?_
  refine Ly y_assign ?_
  refine WL.done ?_
  refine WK.ret ?_
  repeat (first | refine RQ.block ?_ | refine RQ.then_ ?_)
  refine RQ.body (results1 (by rfl) (by rfl)) (fun w s => ?_)
  refine ⟨(none, 0), fun _ => rfl, rfl, ?_⟩
  have s2 := Sat.nilSl s true 59 5
  rw [hxs] at s2 ⊢
  exact s2.toCs (by repeat (first | exact SelL.nil | exact SelL.self | apply SelL.cons | exact Sel.here | apply Sel.there | apply SelL.skip))
 ·
  have hne : ad ≠ none := by rintro rfl; simp at hc4
  refine WK.skip ?_
  refine WK.seq ?_
  refine WK.region ?_
  refine Le (e_mkSlice0 (by exact Tryz.runUnderlying60) (by exact Tryz.sizeOf59)) ?_
  rintro b5 -
  try dsimp only
  refine Ly y_move ?_
  refine Le (e_append (et := elem60) (htx := by exact Tryz.underlying60) (hb := by omega) (hm := by omega)) ?_
  rintro ⟨ad7, cap7⟩ -
  try dsimp only
  refine Ly y_assign ?_
  refine WL.done ?_
  refine WK.ret ?_
  repeat (first | refine RQ.block ?_ | refine RQ.then_ ?_)
  refine RQ.body (results1 (by rfl) (by rfl)) (fun w s => ?_)
  refine ⟨(ad7, cap7), fun h => absurd h hne, by rw [Nat.zero_add], ?_⟩
  rw [Nat.zero_add, List.nil_append] at s
  exact s.toCs (by repeat (first | exact SelL.nil | exact SelL.self | apply SelL.cons | exact Sel.here | apply Sel.there | apply SelL.skip))
set_option maxRecDepth 20000 in
set_option maxHeartbeats 3000000 in
theorem copied_spec (p : Bool) (ad : Option Addr) (cap : Nat) (m : MoveM) :
  Triple Tryz.prog 55 #[.agg #[.int .i64 0, .int .i64 0, .int .i64 0, .int .i64 0, .int .i64 (-1), .int .i64 0, .slice ad 1 cap]] [sl p 59 5 ad 1 cap (flat moveC [m])] (Option Addr × Nat) (fun _ => True) (fun x => .agg #[.int .i64 0, .int .i64 0, .int .i64 0, .int .i64 0, .int .i64 (-1), .int .i64 0, .slice x.1 1 x.2]) (fun x => [sl true 59 5 x.1 1 x.2 (flat moveC [m]), sl p 59 5 ad 1 cap (flat moveC [m])]) := by
 refine Triple.of_body (args := [.agg #[.int .i64 0, .int .i64 0, .int .i64 0, .int .i64 0, .int .i64 (-1), .int .i64 0, .slice ad 1 cap]]) Tryz.func55 rfl Tryz.ntmps55 (by simp) (fun g F => ?_)
 dsimp only [numb, List.cons_append, List.nil_append]
 refine WK.seq ?_
 refine WK.region ?_
 refine Le e_box ?_
 rintro b1 -
 try dsimp only
 refine Le (e_alloc (by exact Tryz.zeroValue62)) ?_
 rintro b2 -
 try dsimp only
 refine WL.done ?_
 refine WK.seq ?_
 refine WK.region ?_
 refine Ly (y_fieldAddr (hu := by exact Tryz.runUnderlying62) (hs := by exact Tryz.sizeOf60)) ?_
 refine Ly (y_load (ha := by exact Tryz.isAgg60)) ?_
 refine Le (e_call (by exact Tryz.call70) (t := clone_move p ad 1 cap [m] (by decide))) ?_
 rintro ⟨ma, mc⟩ -
 try dsimp only
 refine Ly (y_fieldAddr (hu := by exact Tryz.runUnderlying62) (hs := by exact Tryz.sizeOf60)) ?_
 refine Le0 (e_store (hk := by exact Tryz.sizeOf60) (h1 := by rfl)) ?_
 rintro _ -
 try dsimp only
 refine WL.done ?_
 refine WK.seq ?_
 refine WK.seq ?_
 refine WK.region ?_
 refine Ly (y_fieldAddr (hu := by exact Tryz.runUnderlying62) (hs := by exact Tryz.sizeOf60)) ?_
 refine Ly (y_load (ha := by exact Tryz.isAgg60)) ?_
 refine Ly (y_len (hu := by exact Tryz.runUnderlying60)) ?_
 refine Ly y_move ?_
 refine WL.done ?_
 refine WK.block ?_
 refine Kloop (ι := Nat) (fun i => i ≤ 1) (fun i => [(1, .pointer (some ⟨b1, 0, none⟩)), (2, .pointer (some ⟨b2, 0, none⟩)), (9, .slice ma 1 mc), (10, .int .i64 1), (11, .int .i64 (i : Int))]) (fun i => row true b1 62 [.int .i64 0, .int .i64 0, .int .i64 0, .int .i64 0, .int .i64 (-1), .int .i64 0, .slice ma 1 mc] :: sl true 59 5 ma 1 mc (flat moveC [m]) :: sl p 59 5 ad 1 cap (flat moveC [m]) :: row true b2 62 [.int .i64 0, .int .i64 0, .int .i64 0, .int .i64 0, .int .i64 0, .int .i64 0, .slice none 0 0] :: F) (fun i => 1 - i) (0) (by decide) (round := ?_)
 rintro i hi N hN
 refine WK.seq ?_
 refine WK.region ?_
 refine Ly y_lss ?_
 refine WL.done ?_
 refine WK.seq ?_
 refine Kcond (ht := fun hc12 => ?_) (hf := fun hc12 => ?_)
 ·
  have hc12 := of_decide_eq_true hc12
  obtain rfl : i = 0 := by omega
  refine WK.skip ?_
  refine WK.seq ?_
  refine WK.block ?_
  refine WK.seq ?_
  refine WK.region ?_
  refine Ly y_move ?_
  refine Ly y_assign ?_
  refine WL.done ?_
  refine WK.sat (fun w s => Sat.nilSl s true 145 3) ?_
  refine Kdr (l := [(0, 0), (1, 0), (2, 0), (3, 0), (4, 0), (5, 0), (6, 0), (7, 0), (8, 0), (9, 1), (10, 0), (11, 0), (12, 2)]) (Cs := [row true b1 62 [.int .i64 0, .int .i64 0, .int .i64 0, .int .i64 0, .int .i64 (-1), .int .i64 0, .slice ma 1 mc], sl true 59 5 ma 1 mc (flat moveC [m])]) (h := ?_)
  refine Oy (y := y_fieldAddr (hu := by exact Tryz.runUnderlying62) (hs := by exact Tryz.sizeOf60)) (h := ?_)
  refine Oy (y := y_load (ha := by exact Tryz.isAgg60)) (h := ?_)
  refine Oy (y := y_move) (h := ?_)
  refine Oy (y := y_fieldAddr (hu := by exact Tryz.runUnderlying62) (hs := by exact Tryz.sizeOf60)) (h := ?_)
  refine Oy (y := y_load (ha := by exact Tryz.isAgg60)) (h := ?_)
  refine Oy (y := y_move) (h := ?_)
  refine Oy (y := y_indexAddrS (hu := by exact Tryz.runUnderlying60) (hz := by exact Tryz.sizeOf59) (j := 0) (hi := by first | rfl | omega) (hj' := by omega) (hj := by omega)) (h := ?_)
  refine Oy (y := y_fieldAddrS (hu := by exact Tryz.runUnderlying59) (hs := by exact Tryz.sizeOf57)) (h := ?_)
  refine Oy (y := y_loadS (ha := by exact Tryz.isAgg57) (hv := by rfl)) (h := ?_)
  refine Oe (e := e_call (by exact Tryz.call71) (t := clone_lot true none 0 0 [] (by decide))) (h := ?_)
  rintro ⟨ad23, cap23⟩ h23
  have h23 := h23 rfl
  cases h23
  try dsimp only
  refine Oy (y := y_indexAddrS (hu := by exact Tryz.runUnderlying60) (hz := by exact Tryz.sizeOf59) (j := 0) (hi := by first | rfl | omega) (hj' := by omega) (hj := by omega)) (h := ?_)
  refine Oy (y := y_fieldAddrS (hu := by exact Tryz.runUnderlying59) (hs := by exact Tryz.sizeOf57)) (h := ?_)
  refine Ob0 (e := e_storeS (hm := by exact Tryz.sizeOf57) (h1 := by rfl) (hne := by first | (simp; done) | (intro h; cases h))) (h := ?_)
  rintro _ -
  try dsimp only
  refine WO.done ?_
  refine WK.endBlock ?_
  refine WK.region ?_
  refine Ly y_add ?_
  refine Ly y_move ?_
  refine WL.done ?_
  exact Knext hN 1 (by decide) (by decide)
 ·
  have hc12 := of_decide_eq_false hc12
  refine WK.exit ?_
  repeat (first | refine XQ.then_ ?_ | refine XQ.block (by rfl) ?_)
  refine XQ.here ?_
  refine WK.seq ?_
  refine WK.region ?_
  refine Ly (y_loadA (ha := by exact Tryz.isAgg62) (hk := by exact Tryz.sizeOf62)) ?_
  refine Le0 (e_store (hk := by exact Tryz.sizeOf62) (h1 := by rfl)) ?_
  rintro _ -
  try dsimp only
  refine WL.done ?_
  refine WK.ret ?_
  repeat (first | refine RQ.block ?_ | refine RQ.then_ ?_)
  refine RQ.body (resultsC1 (by rfl) (by rfl) (by exact Tryz.isAgg62) (by exact Tryz.sizeOf62) (by repeat (first | exact .here | apply Sel.there)) (by repeat (first | exact Cells.nil | apply Cells.cons | rfl))) (fun w s => ?_)
  exact ⟨(ma, mc), trivial, rfl, s.toCs (by repeat (first | exact SelL.nil | exact SelL.self | apply SelL.cons | exact Sel.here | apply Sel.there | apply SelL.skip))⟩
set_option maxRecDepth 20000 in
set_option maxHeartbeats 8000000 in
theorem post_spec (q : Nat) (sh : Int) (nf ns : Nat) (W : LedW) (xs : List Value) (hx : Ticks ns xs) (hns : ns ≤ 60000) (ms : List ((Int × Int) × Value)) (a n : Int) (k : Nat) (tot : List Int) (t : Int) (oa : Option Addr) (on_ oc : Nat) (old : List LotM) (hsh : 0 ≤ sh ∧ sh < 12) (hnf : nf ≤ 60000) (ha : 1 ≤ a ∧ a ≤ 1073741824) (hk4 : k < 4) (hn1 : 1 ≤ n ∧ n ≤ 1099511627776) (ht : tot[k]? = some t) (ht1 : 0 ≤ t ∧ t + n ≤ 1099511627776) (hon : on_ ≤ 4000) (hold : ∀ x ∈ old, okLot x) (hkk : (kget ms (a, (k : Int))).getD (.slice none 0 0) = .slice oa on_ oc) (p : Bool) (ad : Option Addr) (cap : Nat) (fxs : List Value) :
  Triple Tryz.prog 27 #[.pointer (some ⟨q, 0, none⟩), .agg #[.int .i64 0, .int .i64 0, .int .i64 0, .int .i64 0, .int .i64 (-1), .int .i64 0, .slice ad 1 cap]] [row true q 120 (ledRow sh nf ns W), sl true 62 7 W.sa ns W.sc xs, sl p 59 5 ad 1 cap (flat moveC [(⟨0, a, (k : Int), n⟩ : MoveM)]), mapK plE true W.sb ms, sl false 145 3 oa on_ oc (flat lotC old), sl true 3 1 W.ta 4 W.tc (tot.map (Value.int .i64)), sl true 141 11 W.fa nf W.fc fxs, mapK (fun i : Int => Value.int .i64 i) true W.ib [], mapK (fun i : Int => Value.int .i64 i) true W.gb []] (DrW × (Option Addr × Nat) × (Option Addr × Nat) × (Option Addr × Nat)) (fun _ => True) (fun _ => .tuple #[.int .i64 (sh * 4294967296 + (ns : Int)), .int .i64 0]) (fun x => [row true q 120 (ledRow sh (nf + 1) (ns + 1) ⟨W.ia, W.ic, W.sb, x.1.ta, x.1.tc, x.2.1.1, x.2.1.2, x.2.2.1.1, x.2.2.1.2, W.ib, W.gb⟩), mapK plE true W.sb (kset ms (a, (k : Int)) (Value.slice x.1.la (on_ + 1) x.1.lc)), sl false 145 3 oa on_ oc (flat lotC old), sl true 145 3 x.1.la (on_ + 1) x.1.lc (flat lotC (old ++ [(⟨sh * 4294967296 + (nf : Int), 0, n⟩ : LotM)])), sl true 3 1 x.1.ta 4 x.1.tc ((tot.set k (t + n)).map (Value.int .i64)), sl true 141 11 x.2.1.1 (nf + 1) x.2.1.2 (fxs ++ [.int .i64 (sh * 4294967296 + (nf : Int)), .int .i64 (sh * 4294967296 + (ns : Int)), .int .i64 0, .int .i64 0, .int .i64 0, .int .i64 0, .int .i64 a, .int .i64 (k : Int), .int .i64 n, .slice none 0 0, .slice none 0 0]), sl true 62 7 x.2.2.1.1 (ns + 1) x.2.2.1.2 (xs ++ [.int .i64 (sh * 4294967296 + (ns : Int)), .int .i64 0, .int .i64 0, .int .i64 0, .int .i64 (-1), .int .i64 0, .slice x.2.2.2.1 1 x.2.2.2.2]), mapK (fun i : Int => Value.int .i64 i) true W.ib [], mapK (fun i : Int => Value.int .i64 i) true W.gb [], sl p 59 5 ad 1 cap (flat moveC [(⟨0, a, (k : Int), n⟩ : MoveM)])]) := by
 refine Triple.of_body (args := [.pointer (some ⟨q, 0, none⟩), .agg #[.int .i64 0, .int .i64 0, .int .i64 0, .int .i64 0, .int .i64 (-1), .int .i64 0, .slice ad 1 cap]]) Tryz.func27 rfl Tryz.ntmps27 (by simp) (fun g F => ?_)
 dsimp only [numb, List.cons_append, List.nil_append]
 refine WK.know (fun w s => Sat.slLen (s.sel1 (A := sl true 141 11 W.fa nf W.fc fxs) (by repeat (first | exact .here | apply Sel.there)))) (fun hkn => ?_)
 obtain ⟨hfl, -⟩ := hkn
 obtain ⟨hxl, hxt⟩ := id hx
 refine WK.seq ?_
 refine WK.region ?_
 refine Le e_box ?_
 rintro b3 -
 try dsimp only
 refine Ly y_assign ?_
 refine Ly y_assign ?_
 refine WL.done ?_
 refine WK.seq ?_
 refine WK.region ?_
 refine Ly y_move ?_
 refine Ly (y_loadA (ha := by exact Tryz.isAgg62) (hk := by exact Tryz.sizeOf62)) ?_
 refine Le (e_call (by exact Tryz.call52) (t := draft_spec q sh nf ns W xs hx hns ms a n k tot t oa on_ oc old hsh hnf ha hk4 hn1 ht ht1 hon hold hkk p ad cap)) ?_
 rintro ⟨dq, sbD, ta, tc, ibD, gbD, la, lc, fa, fc⟩ -
 try dsimp only
 refine Ly y_move ?_
 refine Ly y_extract ?_
 refine Ly y_extract ?_
 refine Ly y_assign ?_
 refine Ly y_assign ?_
 refine WL.done ?_
 refine WK.seq ?_
 refine WK.seq ?_
 refine WK.region ?_
 refine Ly y_move ?_
 refine Ly y_neq ?_
 refine WL.done ?_
 refine Kcond (ht := fun h => by cases h) (hf := fun _ => ?_)
 refine WK.skip ?_
 refine WK.seq ?_
 refine Kdr (l := [(0, 0), (1, 0), (2, 0), (3, 0), (4, 0), (5, 0), (6, 0), (7, 0), (8, 2)]) (Cs := [row true q 120 (ledRow sh nf ns W), row true dq 122 (draftRow q (sh * 4294967296 + (ns : Int)) (.slice ad 1 cap) sbD ta tc fa 1 fc ibD gbD)]) (h := ?_)
 refine Oy (y := y_move) (h := ?_)
 refine Oy (y := y_nilCheck) (h := ?_)
 refine Oy (y := y_fieldAddr (hu := by exact Tryz.runUnderlying120) (hs := by exact Tryz.sizeOf114)) (h := ?_)
 refine Oy (y := y_load (ha := by exact Tryz.isAgg114)) (h := ?_)
 refine Oy (y := y_move) (h := ?_)
 refine Oy (y := y_nilCheck) (h := ?_)
 refine Oy (y := y_fieldAddr (hu := by exact Tryz.runUnderlying122) (hs := by exact Tryz.sizeOf114)) (h := ?_)
 refine Oy (y := y_load (ha := by exact Tryz.isAgg114)) (h := ?_)
 refine Ob (e := (e_call (by exact Tryz.call53) (t := (copyPl_spec W.sb sbD ms (a, (k : Int)) (Value.slice la (on_ + 1) lc))))) (h := ?_)
 rintro _ -
 try dsimp only
 refine WO.done ?_
 refine WK.seq ?_
 refine Kdr (l := [(0, 0), (1, 0), (2, 0), (3, 0), (4, 0), (5, 0), (6, 0), (7, 0), (8, 2)]) (Cs := [row true q 120 (ledRow sh nf ns W), row true dq 122 (draftRow q (sh * 4294967296 + (ns : Int)) (.slice ad 1 cap) sbD ta tc fa 1 fc ibD gbD)]) (h := ?_)
 refine Oy (y := y_move) (h := ?_)
 refine Oy (y := y_nilCheck) (h := ?_)
 refine Oy (y := y_fieldAddr (hu := by exact Tryz.runUnderlying120) (hs := by exact Tryz.sizeOf118)) (h := ?_)
 refine Oy (y := y_load (ha := by exact Tryz.isAgg118)) (h := ?_)
 refine Oy (y := y_move) (h := ?_)
 refine Oy (y := y_nilCheck) (h := ?_)
 refine Oy (y := y_fieldAddr (hu := by exact Tryz.runUnderlying122) (hs := by exact Tryz.sizeOf118)) (h := ?_)
 refine Oy (y := y_load (ha := by exact Tryz.isAgg118)) (h := ?_)
 refine Ob (e := e_call (by exact Tryz.call54) (t := copyI_spec W.ib ibD)) (h := ?_)
 rintro _ -
 try dsimp only
 refine WO.done ?_
 refine WK.seq ?_
 refine Kdr (l := [(0, 0), (1, 0), (2, 0), (3, 0), (4, 0), (5, 0), (6, 0), (7, 0), (8, 2)]) (Cs := [row true q 120 (ledRow sh nf ns W), row true dq 122 (draftRow q (sh * 4294967296 + (ns : Int)) (.slice ad 1 cap) sbD ta tc fa 1 fc ibD gbD)]) (h := ?_)
 refine Oy (y := y_move) (h := ?_)
 refine Oy (y := y_nilCheck) (h := ?_)
 refine Oy (y := y_fieldAddr (hu := by exact Tryz.runUnderlying120) (hs := by exact Tryz.sizeOf118)) (h := ?_)
 refine Oy (y := y_load (ha := by exact Tryz.isAgg118)) (h := ?_)
 refine Oy (y := y_move) (h := ?_)
 refine Oy (y := y_nilCheck) (h := ?_)
 refine Oy (y := y_fieldAddr (hu := by exact Tryz.runUnderlying122) (hs := by exact Tryz.sizeOf118)) (h := ?_)
 refine Oy (y := y_load (ha := by exact Tryz.isAgg118)) (h := ?_)
 refine Ob (e := e_call (by exact Tryz.call54) (t := copyI_spec W.gb gbD)) (h := ?_)
 rintro _ -
 try dsimp only
 refine WO.done ?_
 refine WK.seq ?_
 refine WK.seq ?_
 refine WK.region ?_
 refine Ly y_move ?_
 refine Ly y_nilCheck ?_
 refine Ly (y_fieldAddr (hu := by exact Tryz.runUnderlying122) (hs := by exact Tryz.sizeOf114)) ?_
 refine Ly (y_load (ha := by exact Tryz.isAgg114)) ?_
 refine Le (e_rangeK (hu := Tryz.runUnderlying114)) ?_
 rintro it50 -
 try dsimp only
 refine WL.done ?_
 refine WK.block ?_
 refine Kloop (ι := Bool) (fun _ => True) (fun _ => [(0, .pointer (some ⟨q, 0, none⟩)), (3, .pointer (some ⟨b3, 0, none⟩)), (6, .pointer (some ⟨dq, 0, none⟩)), (50, .pointer (some ⟨it50, 0, none⟩))]) (fun x => row true dq 122 (draftRow q (sh * 4294967296 + (ns : Int)) (.slice ad 1 cap) sbD ta tc fa 1 fc ibD gbD) :: (bif x then rangeK plE true sbD it50 [((a, (k : Int)), Value.slice la (on_ + 1) lc)] [] (some ((a, (k : Int)), Value.slice la (on_ + 1) lc)) else rangeK plE true sbD it50 [((a, (k : Int)), Value.slice la (on_ + 1) lc)] [((a, (k : Int)), Value.slice la (on_ + 1) lc)] none) :: sl true 3 1 ta 4 tc ((tot.set k (t + n)).map (Value.int .i64)) :: mapK (fun i : Int => Value.int .i64 i) true ibD [] :: mapK (fun i : Int => Value.int .i64 i) true gbD [] :: sl true 145 3 la (on_ + 1) lc (flat lotC (old ++ [(⟨sh * 4294967296 + (nf : Int), 0, n⟩ : LotM)])) :: sl true 141 11 fa 1 fc [.int .i64 (sh * 4294967296 + (nf : Int)), .int .i64 (sh * 4294967296 + (ns : Int)), .int .i64 0, .int .i64 0, .int .i64 0, .int .i64 0, .int .i64 a, .int .i64 (k : Int), .int .i64 n, .slice none 0 0, .slice none 0 0] :: row true b3 62 [.int .i64 0, .int .i64 0, .int .i64 0, .int .i64 0, .int .i64 (-1), .int .i64 0, .slice ad 1 cap] :: row true q 120 (ledRow sh nf ns W) :: sl true 62 7 W.sa ns W.sc xs :: sl p 59 5 ad 1 cap (flat moveC [(⟨0, a, (k : Int), n⟩ : MoveM)]) :: mapK plE true W.sb (kset ms (a, (k : Int)) (Value.slice la (on_ + 1) lc)) :: sl false 145 3 oa on_ oc (flat lotC old) :: sl true 3 1 W.ta 4 W.tc (tot.map (Value.int .i64)) :: sl true 141 11 W.fa nf W.fc fxs :: mapK (fun i : Int => Value.int .i64 i) true W.ib [] :: mapK (fun i : Int => Value.int .i64 i) true W.gb [] :: F) (fun x => bif x then 0 else 1) (false) (trivial) (round := ?_)
 rintro x - N hN
 refine WK.seq ?_
 rcases x with _ | _
 ·
  dsimp only [cond]
  refine WK.region ?_
  refine Le e_nextK ?_
  rintro x51 hx51
  obtain rfl : x51 = some (0, (a, (k : Int)), Value.slice la (on_ + 1) lc) := by
    rcases x51 with _ | ⟨i, k2, v2⟩
    · cases hx51
    · cases i with
      | zero => cases hx51; rfl
      | succ i => simp at hx51
  dsimp only [List.eraseIdx]
  try dsimp only
  refine Ly y_extract ?_
  refine WL.done ?_
  refine WK.seq ?_
  refine Kcond (ht := fun _ => ?_) (hf := fun h => by cases h)
  refine WK.skip ?_
  refine WK.block ?_
  refine WK.seq ?_
  refine WK.region ?_
  refine Ly y_entryK ?_
  refine Ly y_extract ?_
  refine Ly y_extract ?_
  refine Le (e_alloc (by exact Tryz.zeroValue116)) ?_
  rintro b8 -
  try dsimp only
  refine Le0 (e_store (hk := by exact Tryz.sizeOf116) (h1 := by rfl)) ?_
  rintro _ -
  try dsimp only
  refine Ly y_assign ?_
  refine WL.done ?_
  refine WK.seq ?_
  refine WK.region ?_
  refine Ly y_move ?_
  refine Ly (y_len (hu := by exact Tryz.runUnderlying57)) ?_
  refine Ly y_eql ?_
  refine WL.done ?_
  refine Kcond (ht := fun hc58 => ?_) (hf := fun hc58 => ?_)
  ·
   have hc58 := of_decide_eq_true hc58
   exfalso
   first | omega | (simp at hc58; done) | (simp at hc58; omega) | (simp_all; done) | (simp_all; omega)
  ·
   have hc58 := of_decide_eq_false hc58
   refine WK.skip ?_
   refine WK.endBlock ?_
   have hNx := hN true trivial (by decide)
   dsimp only [cond] at hNx
   exact WK.nextAt hNx (by repeat (first | exact KK.nil | refine KK.cons (by first | rfl | (simp; done)) ?_)) (by repeat (first | exact SelL.nil | exact SelL.self | apply SelL.cons | exact Sel.here | apply Sel.there | apply SelL.skip))
 ·
  dsimp only [cond]
  refine WK.region ?_
  refine Le e_nextK ?_
  rintro x51 hx51
  obtain rfl : x51 = none := by
    rcases x51 with _ | ⟨i, k2, v2⟩
    · rfl
    · simp at hx51
  dsimp only
  try dsimp only
  refine Ly y_extract ?_
  refine WL.done ?_
  refine WK.seq ?_
  refine Kcond (ht := fun h => by cases h) (hf := fun _ => ?_)
  refine WK.exit ?_
  repeat (first | refine XQ.then_ ?_ | refine XQ.block (by rfl) ?_)
  refine XQ.here ?_
  refine WK.seq ?_
  refine WK.region ?_
  refine Ly y_move ?_
  refine Ly y_move ?_
  refine Ly y_nilCheck ?_
  refine Ly (y_fieldAddr (hu := by exact Tryz.runUnderlying122) (hs := by exact Tryz.sizeOf22)) ?_
  refine Ly (y_load (ha := by exact Tryz.isAgg22)) ?_
  refine Ly y_nilCheck ?_
  refine Ly (y_fieldAddr (hu := by exact Tryz.runUnderlying120) (hs := by exact Tryz.sizeOf22)) ?_
  refine Le0 (e_store (hk := by exact Tryz.sizeOf22) (h1 := by rfl)) ?_
  rintro _ -
  try dsimp only
  refine WL.done ?_
  refine WK.seq ?_
  refine Kdr (l := [(0, 0), (1, 0), (2, 0), (3, 0), (4, 0), (5, 0), (6, 0), (7, 0), (8, 0), (9, 1), (10, 0), (11, 0), (12, 2)]) (Cs := [row true q 120 (ledRow sh nf ns ⟨W.ia, W.ic, W.sb, ta, tc, W.fa, W.fc, W.sa, W.sc, W.ib, W.gb⟩), row true dq 122 (draftRow q (sh * 4294967296 + (ns : Int)) (.slice ad 1 cap) sbD ta tc fa 1 fc ibD gbD)]) (h := ?_)
  refine Oy (y := y_move) (h := ?_)
  refine Oy (y := y_move) (h := ?_)
  refine Oy (y := y_nilCheck) (h := ?_)
  refine Oy (y := y_fieldAddr (hu := by exact Tryz.runUnderlying120) (hs := by exact Tryz.sizeOf117)) (h := ?_)
  refine Oy (y := y_load (ha := by exact Tryz.isAgg117)) (h := ?_)
  refine Oy (y := y_move) (h := ?_)
  refine Oy (y := y_nilCheck) (h := ?_)
  refine Oy (y := y_fieldAddr (hu := by exact Tryz.runUnderlying122) (hs := by exact Tryz.sizeOf117)) (h := ?_)
  refine Oy (y := y_load (ha := by exact Tryz.isAgg117)) (h := ?_)
  refine Oe (e := e_append (et := elem117) (htx := by exact Tryz.underlying117) (hb := by omega) (hm := by omega)) (h := ?_)
  rintro ⟨ad80, cap80⟩ -
  try dsimp only
  refine Oy (y := y_nilCheck) (h := ?_)
  refine Oy (y := y_fieldAddr (hu := by exact Tryz.runUnderlying120) (hs := by exact Tryz.sizeOf117)) (h := ?_)
  refine Ob0 (e := e_store (hk := by exact Tryz.sizeOf117) (h1 := by rfl)) (h := ?_)
  rintro _ -
  try dsimp only
  refine WO.done ?_
  refine WK.seq ?_
  refine WK.region ?_
  refine Ly (y_loadA (ha := by exact Tryz.isAgg62) (hk := by exact Tryz.sizeOf62)) ?_
  refine Le (e_call (by exact Tryz.call55) (t := (copied_spec p ad cap (⟨0, a, (k : Int), n⟩ : MoveM)))) ?_
  rintro ⟨ma, mc⟩ -
  try dsimp only
  refine Le0 (e_store (hk := by exact Tryz.sizeOf62) (h1 := by rfl)) ?_
  rintro _ -
  try dsimp only
  refine WL.done ?_
  refine WK.seq ?_
  refine WK.region ?_
  refine Ly y_move ?_
  refine Ly y_nilCheck ?_
  refine Ly (y_fieldAddr (hu := by exact Tryz.runUnderlying122) (hs := by exact Tryz.sizeOf3)) ?_
  refine Ly (y_load (ha := by exact Tryz.isAgg3)) ?_
  refine Ly (y_fieldAddr (hu := by exact Tryz.runUnderlying62) (hs := by exact Tryz.sizeOf3)) ?_
  refine Le0 (e_store (hk := by exact Tryz.sizeOf3) (h1 := by rfl)) ?_
  rintro _ -
  try dsimp only
  refine WL.done ?_
  refine WK.seq ?_
  refine Kdr (l := [(0, 0), (1, 0), (2, 0), (3, 0), (4, 0), (5, 0), (6, 1), (7, 1), (8, 0), (9, 0), (10, 2)]) (Cs := [row true q 120 (ledRow sh (nf + 1) ns ⟨W.ia, W.ic, W.sb, ta, tc, ad80, cap80, W.sa, W.sc, W.ib, W.gb⟩), row true b3 62 [.int .i64 (sh * 4294967296 + (ns : Int)), .int .i64 0, .int .i64 0, .int .i64 0, .int .i64 (-1), .int .i64 0, .slice ma 1 mc]]) (h := ?_)
  refine Oy (y := y_move) (h := ?_)
  refine Oy (y := y_move) (h := ?_)
  refine Oy (y := y_nilCheck) (h := ?_)
  refine Oy (y := y_fieldAddr (hu := by exact Tryz.runUnderlying120) (hs := by exact Tryz.sizeOf108)) (h := ?_)
  refine Oy (y := y_load (ha := by exact Tryz.isAgg108)) (h := ?_)
  refine Oy (y := y_loadA (ha := by exact Tryz.isAgg62) (hk := by exact Tryz.sizeOf62)) (h := ?_)
  refine Oe (e := e_mkSlice1 (hu := by exact Tryz.runUnderlying108) (hk := by exact Tryz.sizeOf62) (hz := by exact Tryz.zeroValue62) (hk0 := by rfl) (hb := by decide) (h1 := by rfl)) (h := ?_)
  rintro b96 -
  try dsimp only
  refine Oe (e := e_append (et := elem108) (htx := by exact Tryz.underlying108) (hb := by omega) (hm := by omega)) (h := ?_)
  rintro ⟨ad97, cap97⟩ -
  try dsimp only
  refine Oy (y := y_nilCheck) (h := ?_)
  refine Oy (y := y_fieldAddr (hu := by exact Tryz.runUnderlying120) (hs := by exact Tryz.sizeOf108)) (h := ?_)
  refine Ob0 (e := e_store (hk := by exact Tryz.sizeOf108) (h1 := by rfl)) (h := ?_)
  rintro _ -
  try dsimp only
  refine WO.done ?_
  refine WK.seq ?_
  refine WK.region ?_
  refine Ly y_move ?_
  refine Ly y_nilCheck ?_
  refine Ly (y_fieldAddr (hu := by exact Tryz.runUnderlying122) (hs := by exact Tryz.sizeOf3)) ?_
  refine Ly (y_load (ha := by exact Tryz.isAgg3)) ?_
  refine Ly y_assign ?_
  refine Ly y_assign ?_
  refine WL.done ?_
  refine WK.ret ?_
  repeat (first | refine RQ.block ?_ | refine RQ.then_ ?_)
  refine RQ.body (results2 (by rfl) (by rfl) (by rfl)) (fun w s => ?_)
  exact ⟨(⟨dq, sbD, ta, tc, ibD, gbD, la, lc, fa, fc⟩, (ad80, cap80), (ad97, cap97), (ma, mc)), trivial, rfl, s.toCs (by repeat (first | exact SelL.nil | exact SelL.self | apply SelL.cons | exact Sel.here | apply Sel.there | apply SelL.skip))⟩
end Go.Proofs.YtkakfmcjiabjjaaGreatDoor
