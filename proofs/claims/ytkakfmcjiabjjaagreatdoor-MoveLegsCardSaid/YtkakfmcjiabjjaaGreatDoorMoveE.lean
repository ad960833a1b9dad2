import Derived.Test.YtkakfmcjiabjjaaGreatDoorMoveD
namespace Go.Proofs.YtkakfmcjiabjjaaGreatDoor
set_option linter.unusedVariables false
set_option linter.unusedSimpArgs false
set_option linter.unusedSectionVars false
set_option linter.unnecessarySimpa false
open Go Go.Sep
attribute [local irreducible] row sl mapO held exL allR byt mapI slr
theorem pointsM_len (l : List HomeM) (a b : Int) : (pointsM l a b).length ≤ l.length + 2 := by
  have h1 := foldl_put_len l []
  have h2 := putM_len (l.foldl putF []) a
  have h3 := putM_len (putM (l.foldl putF []) a) (b + 1)
  unfold pointsM
  simp only [List.length_nil, Nat.zero_add] at h1
  dsimp only
  split <;> omega
theorem findM_range {l : List HomeM} {a : Int} : True := trivial
def sameM (l m : List HomeM) : Bool := decide (l = m)
set_option maxRecDepth 20000 in
set_option maxHeartbeats 4000000 in
theorem refSplit_spec (p : Bool) (ad : Option Addr) (len cap : Nat) (l : List HomeM) (hlen : len ≤ 10000) (a b sh : Int) (hb : b ≤ 1073741824 ∧ 1 ≤ b) :
  Triple Tryz.prog 21 #[.slice ad len cap, .int .i64 a, .int .i64 b, .int .i64 sh] [sl p 83 2 ad len cap (homesC l)] (Option Addr × Nat) (fun _ => True) (fun x => .slice x.1 (refSplitM l a b sh).length x.2) (fun x => [sl true 83 2 x.1 (refSplitM l a b sh).length x.2 (homesC (refSplitM l a b sh)), sl p 83 2 ad len cap (homesC l)]) := by
 refine Triple.of_body (args := [.slice ad len cap, .int .i64 a, .int .i64 b, .int .i64 sh]) Tryz.func21 rfl Tryz.ntmps21 (by simp) (fun g F => ?_)
 dsimp only [numb, List.cons_append, List.nil_append]
 refine WK.know (fun w s => Sat.slLen (s.sel1 (A := sl p 83 2 ad len cap (homesC l)) (by repeat (first | exact .here | apply Sel.there)))) (fun hkn => ?_)
 obtain ⟨n1, -⟩ := hkn
 rw [homesC_len] at n1
 replace n1 : l.length = _ := Nat.eq_of_mul_eq_mul_right (by omega) n1
 have hpl := pointsM_len l a b
 have hfl := foldl_put_len l []
 simp only [List.length_nil, Nat.zero_add] at hfl
 refine WK.seq ?_
 refine WK.region ?_
 refine Ly y_assign ?_
 refine WL.done ?_
 refine WK.seq ?_
 refine WK.region ?_
 refine Ly y_assign ?_
 refine WL.done ?_
 refine WK.seq ?_
 refine WK.seq ?_
 refine WK.region ?_
 refine Ly y_assign ?_
 refine WL.done ?_
 refine WK.block ?_
 refine WK.sat (fun w s => Sat.nilSl s true 3 1) ?_
 refine Kloop (ι := Nat × Option Addr × Nat) (fun x => x.1 ≤ len) (fun x => [(0, .slice ad len cap), (1, .int .i64 a), (2, .int .i64 b), (3, .int .i64 sh), (9, .slice x.2.1 ((l.take x.1).foldl putF []).length x.2.2), (10, .int .i64 (x.1 : Int))]) (fun x => sl true 3 1 x.2.1 ((l.take x.1).foldl putF []).length x.2.2 (((l.take x.1).foldl putF []).map (Value.int .i64)) :: sl p 83 2 ad len cap (homesC l) :: F) (fun x => len - x.1) ((0, none, 0)) (Nat.zero_le _) (round := ?_)
 rintro ⟨i, ad9, cap9⟩ hi N hN
 dsimp only at hi ⊢
 have hfi := foldl_put_len (l.take i) []
 rw [List.length_take] at hfi
 simp only [List.length_nil, Nat.zero_add] at hfi
 refine WK.seq ?_
 refine WK.seq ?_
 refine WK.region ?_
 refine Ly y_move ?_
 refine Ly y_move ?_
 refine Ly (y_len (hu := by exact Tryz.runUnderlying23)) ?_
 refine Ly y_lss ?_
 refine WL.done ?_
 refine Kcond (ht := fun hc16 => ?_) (hf := fun hc16 => ?_)
 ·
  have hc16 := of_decide_eq_true hc16
  obtain ⟨h, hx⟩ : ∃ x, l[i]? = some x := ⟨_, List.getElem?_eq_getElem (by omega)⟩
  refine WK.skip ?_
  refine WK.seq ?_
  refine WK.block ?_
  refine WK.region ?_
  refine Ly y_move ?_
  refine Ly y_move ?_
  refine Ly y_move ?_
  refine Ly (y_indexAddrS (hu := by exact Tryz.runUnderlying23) (hz := by exact Tryz.sizeOf83) (j := i) (hi := by first | rfl | omega) (hj' := by omega) (hj := by omega)) ?_
  refine Ly (y_fieldAddrS (hu := by exact Tryz.runUnderlying83) (hs := by exact Tryz.sizeOf3)) ?_
  refine Ly (y_loadS (ha := by exact Tryz.isAgg3) (hv := by exact homesC_f hx (by rfl))) ?_
  refine Le (e_call (by exact Tryz.call43) (t := put_spec ad9 _ cap9 ((l.take i).foldl putF []) h.frm (by omega))) ?_
  rintro ⟨ad25, cap25⟩ -
  try dsimp only
  refine Ly y_assign ?_
  refine WL.done ?_
  refine WK.endBlock ?_
  refine WK.region ?_
  refine Ly y_move ?_
  refine Ly y_add ?_
  refine Ly y_assign ?_
  refine WL.done ?_
  apply WK.next hN (i + 1, ad25, cap25) (by dsimp only; omega) (by dsimp only; omega) (by dsimp only; rw [foldl_more hx]; exact (by repeat (first | exact KK.nil | refine KK.cons (by first | rfl | (simp; done)) ?_)))
  dsimp only
  rw [foldl_more hx]
  exact (by repeat (first | exact SelL.nil | exact SelL.self | apply SelL.cons | exact Sel.here | apply Sel.there | apply SelL.skip))
 ·
  have hc16 := of_decide_eq_false hc16
  obtain rfl : len = i := by omega
  rw [List.take_of_length_le (by omega)]
  refine WK.exit ?_
  repeat (first | refine XQ.then_ ?_ | refine XQ.block (by rfl) ?_)
  refine XQ.here ?_
  refine WK.seq ?_
  refine WK.region ?_
  refine Ly y_move ?_
  refine Ly y_move ?_
  refine Le (e_call (by exact Tryz.call43) (t := put_spec ad9 _ cap9 (l.foldl putF []) a (by omega))) ?_
  rintro ⟨ad28, cap28⟩ -
  have hpa := putM_len (l.foldl putF []) a
  try dsimp only
  refine Ly y_assign ?_
  refine WL.done ?_
  refine WK.seq ?_
  refine WK.seq ?_
  refine WK.region ?_
  refine Ly y_move ?_
  refine Ly y_lss ?_
  refine WL.done ?_
  refine WK.cut (ι := Option Addr × Nat) (fun _ => True) (fun x => [(0, .slice ad len cap), (1, .int .i64 a), (2, .int .i64 b), (3, .int .i64 sh), (9, .slice x.1 (pointsM l a b).length x.2)]) (fun x => sl true 3 1 x.1 (pointsM l a b).length x.2 ((pointsM l a b).map (Value.int .i64)) :: sl p 83 2 ad len cap (homesC l) :: F) ?_ ?_
  ·
   rintro ⟨ad35, cap35⟩ -
   dsimp only
   refine WK.seq ?_
   refine WK.region ?_
   refine Ly y_assign ?_
   refine WL.done ?_
   refine WK.seq ?_
   refine WK.seq ?_
   refine WK.region ?_
   refine Ly y_assign ?_
   refine WL.done ?_
   refine WK.block ?_
   refine WK.sat (fun w s => Sat.nilSl s true 3 1) ?_
   refine Kloop (ι := Nat × Option Addr × Nat) (fun x => x.1 ≤ (pointsM l a b).length) (fun x => [(0, .slice ad len cap), (1, .int .i64 a), (2, .int .i64 b), (3, .int .i64 sh), (9, .slice ad35 (pointsM l a b).length cap35), (11, .slice x.2.1 x.1 x.2.2), (12, .int .i64 (x.1 : Int))]) (fun x => sl true 3 1 x.2.1 x.1 x.2.2 ((((pointsM l a b).take x.1).map (shardAt l a b sh)).map (Value.int .i64)) :: sl true 3 1 ad35 (pointsM l a b).length cap35 ((pointsM l a b).map (Value.int .i64)) :: sl p 83 2 ad len cap (homesC l) :: F) (fun x => (pointsM l a b).length - x.1) ((0, none, 0)) (Nat.zero_le _) (round := ?_)
   rintro ⟨i, ad11, cap11⟩ hi N hN
   dsimp only at hi ⊢
   refine WK.seq ?_
   refine WK.seq ?_
   refine WK.region ?_
   refine Ly y_move ?_
   refine Ly y_move ?_
   refine Ly (y_len (hu := by exact Tryz.runUnderlying22)) ?_
   refine Ly y_lss ?_
   refine WL.done ?_
   refine Kcond (ht := fun hc38 => ?_) (hf := fun hc38 => ?_)
   ·
    have hc38 := of_decide_eq_true hc38
    obtain ⟨x, hx⟩ : ∃ x, (pointsM l a b)[i]? = some x := ⟨_, List.getElem?_eq_getElem (by omega)⟩
    refine WK.skip ?_
    refine WK.seq ?_
    refine WK.block ?_
    refine WK.seq ?_
    refine WK.region ?_
    refine Ly y_move ?_
    refine Ly y_move ?_
    refine Ly (y_indexAddrS (hu := by exact Tryz.runUnderlying22) (hz := by exact Tryz.sizeOf3) (j := i) (hi := by first | rfl | omega) (hj' := by omega) (hj := by omega) (hr := by exact Nat.mul_one _)) ?_
    refine Ly (y_loadS (ha := by exact Tryz.isAgg3) (hv := (by rw [List.getElem?_map, hx]; rfl))) ?_
    refine Ly y_move ?_
    refine Ly y_geq ?_
    refine Ly y_move ?_
    refine WL.split (d := 47) (by rfl) (fun hc47 => ?_) (fun hc47 => ?_)
    ·
     have hc47 := of_decide_eq_true hc47
     refine Lyg y_move ?_
     refine Lyg y_move ?_
     refine Lyg (y_indexAddrS (hu := by exact Tryz.runUnderlying22) (hz := by exact Tryz.sizeOf3) (j := i) (hi := by first | rfl | omega) (hj' := by omega) (hj := by omega) (hr := by exact Nat.mul_one _)) ?_
     refine Lyg (y_loadS (ha := by exact Tryz.isAgg3) (hv := (by rw [List.getElem?_map, hx]; rfl))) ?_
     refine Lyg y_move ?_
     refine Lyg y_leq ?_
     refine Ly y_pick_true ?_
     refine WL.done ?_
     refine Kcond (ht := fun hc54 => ?_) (hf := fun hc54 => ?_)
     ·
      have hc54 := of_decide_eq_true hc54
      refine WK.region ?_
      refine Ly y_move ?_
      refine Ly y_move ?_
      refine Le (e_mkSlice1 (hu := by exact Tryz.runUnderlying22) (hk := by exact Tryz.sizeOf3) (hz := by exact Tryz.zeroValue3) (hk0 := by rfl) (hb := by decide) (h1 := by rfl)) ?_
      rintro b57 -
      try dsimp only
      refine Le (e_append (et := elem22) (htx := by exact Tryz.underlying22) (hb := by omega) (hm := by omega)) ?_
      rintro ⟨ad58, cap58⟩ -
      try dsimp only
      refine Ly y_assign ?_
      refine WL.done ?_
      refine WK.endBlock ?_
      refine WK.region ?_
      refine Ly y_move ?_
      refine Ly y_add ?_
      refine Ly y_assign ?_
      refine WL.done ?_
      apply WK.next hN (i + 1, ad58, cap58) (by dsimp only; omega) (by dsimp only; omega) (by repeat (first | exact KK.nil | refine KK.cons (by first | rfl | (simp; done)) ?_))
      dsimp only
      rw [List.take_add_one, hx, Option.toList_some]
      simp only [List.map_append, List.map_cons, List.map_nil]
      rw [shardAt, if_pos ⟨hc47, hc54⟩]
      exact (by repeat (first | exact SelL.nil | exact SelL.self | apply SelL.cons | exact Sel.here | apply Sel.there | apply SelL.skip))
     ·
      have hc54 := of_decide_eq_false hc54
      refine WK.region ?_
      refine Ly y_move ?_
      refine Ly y_move ?_
      refine Ly y_move ?_
      refine Ly y_move ?_
      refine Ly (y_indexAddrS (hu := by exact Tryz.runUnderlying22) (hz := by exact Tryz.sizeOf3) (j := i) (hi := by first | rfl | omega) (hj' := by omega) (hj := by omega) (hr := by exact Nat.mul_one _)) ?_
      refine Ly (y_loadS (ha := by exact Tryz.isAgg3) (hv := (by rw [List.getElem?_map, hx]; rfl))) ?_
      refine Le (e_call (by exact Tryz.call16) (t := refFind_spec p ad len cap l (by omega) x)) ?_
      rintro _ -
      try dsimp only
      refine Le (e_mkSlice1 (hu := by exact Tryz.runUnderlying22) (hk := by exact Tryz.sizeOf3) (hz := by exact Tryz.zeroValue3) (hk0 := by rfl) (hb := by decide) (h1 := by rfl)) ?_
      rintro b66 -
      try dsimp only
      refine Le (e_append (et := elem22) (htx := by exact Tryz.underlying22) (hb := by omega) (hm := by omega)) ?_
      rintro ⟨ad67, cap67⟩ -
      try dsimp only
      refine Ly y_assign ?_
      refine WL.done ?_
      refine WK.endBlock ?_
      refine WK.region ?_
      refine Ly y_move ?_
      refine Ly y_add ?_
      refine Ly y_assign ?_
      refine WL.done ?_
      apply WK.next hN (i + 1, ad67, cap67) (by dsimp only; omega) (by dsimp only; omega) (by repeat (first | exact KK.nil | refine KK.cons (by first | rfl | (simp; done)) ?_))
      dsimp only
      rw [List.take_add_one, hx, Option.toList_some]
      simp only [List.map_append, List.map_cons, List.map_nil]
      rw [shardAt, if_neg (fun h => hc54 h.2)]
      exact (by repeat (first | exact SelL.nil | exact SelL.self | apply SelL.cons | exact Sel.here | apply Sel.there | apply SelL.skip))
    ·
     have hc47 := of_decide_eq_false hc47
     refine Lz ?_
     refine Lz ?_
     refine Lz ?_
     refine Lz ?_
     refine Lz ?_
     refine Lz ?_
     refine Ly y_pick_false ?_
     refine WL.done ?_
     refine Kcond (ht := fun h => by cases h) (hf := fun _ => ?_)
     refine WK.region ?_
     refine Ly y_move ?_
     refine Ly y_move ?_
     refine Ly y_move ?_
     refine Ly y_move ?_
     refine Ly (y_indexAddrS (hu := by exact Tryz.runUnderlying22) (hz := by exact Tryz.sizeOf3) (j := i) (hi := by first | rfl | omega) (hj' := by omega) (hj := by omega) (hr := by exact Nat.mul_one _)) ?_
     refine Ly (y_loadS (ha := by exact Tryz.isAgg3) (hv := (by rw [List.getElem?_map, hx]; rfl))) ?_
     refine Le (e_call (by exact Tryz.call16) (t := refFind_spec p ad len cap l (by omega) x)) ?_
     rintro _ -
     try dsimp only
     refine Le (e_mkSlice1 (hu := by exact Tryz.runUnderlying22) (hk := by exact Tryz.sizeOf3) (hz := by exact Tryz.zeroValue3) (hk0 := by rfl) (hb := by decide) (h1 := by rfl)) ?_
     rintro b66 -
     try dsimp only
     refine Le (e_append (et := elem22) (htx := by exact Tryz.underlying22) (hb := by omega) (hm := by omega)) ?_
     rintro ⟨ad67, cap67⟩ -
     try dsimp only
     refine Ly y_assign ?_
     refine WL.done ?_
     refine WK.endBlock ?_
     refine WK.region ?_
     refine Ly y_move ?_
     refine Ly y_add ?_
     refine Ly y_assign ?_
     refine WL.done ?_
     apply WK.next hN (i + 1, ad67, cap67) (by dsimp only; omega) (by dsimp only; omega) (by repeat (first | exact KK.nil | refine KK.cons (by first | rfl | (simp; done)) ?_))
     dsimp only
     rw [List.take_add_one, hx, Option.toList_some]
     simp only [List.map_append, List.map_cons, List.map_nil]
     rw [shardAt, if_neg (fun h => hc47 h.1)]
     exact (by repeat (first | exact SelL.nil | exact SelL.self | apply SelL.cons | exact Sel.here | apply Sel.there | apply SelL.skip))
   ·
    have hc38 := of_decide_eq_false hc38
    obtain rfl : i = (pointsM l a b).length := by omega
    rw [List.take_length]
    refine WK.exit ?_
    repeat (first | refine XQ.then_ ?_ | refine XQ.block (by rfl) ?_)
    refine XQ.here ?_
    refine WK.seq ?_
    refine WK.region ?_
    refine Ly y_move ?_
    refine Ly y_move ?_
    refine Le (e_call (by exact Tryz.call33) (t := normal_spec true true ad35 ad11 _ cap35 cap11 _ _ (by omega))) ?_
    rintro ⟨ad70, cap70⟩ -
    try dsimp only
    refine Ly y_assign ?_
    refine WL.done ?_
    refine WK.ret ?_
    repeat (first | refine RQ.block ?_ | refine RQ.then_ ?_)
    refine RQ.body (results1 (by rfl) (by rfl)) (fun w s => ?_)
    exact ⟨(ad70, cap70), trivial, rfl, s.toCs (by repeat (first | exact SelL.nil | exact SelL.self | apply SelL.cons | exact Sel.here | apply Sel.there | apply SelL.skip))⟩
  ·
   intro J30
   refine Kcond (ht := fun hc30 => ?_) (hf := fun hc30 => ?_)
   ·
    have hc30 := of_decide_eq_true hc30
    refine WK.region ?_
    refine Ly y_move ?_
    refine Ly y_move ?_
    refine Ly y_add ?_
    refine Le (e_call (by exact Tryz.call43) (t := put_spec ad28 _ cap28 (putM (l.foldl putF []) a) (b + 1) (by omega))) ?_
    rintro ⟨ad34, cap34⟩ -
    try dsimp only
    refine Ly y_assign ?_
    refine WL.done ?_
    apply WK.goto J30 (ad34, cap34) trivial (by unfold pointsM; dsimp only; rw [if_pos hc30]; exact (by repeat (first | exact KK.nil | refine KK.cons (by first | rfl | (simp; done)) ?_)))
    unfold pointsM
    dsimp only
    rw [if_pos hc30]
    exact (by repeat (first | exact SelL.nil | exact SelL.self | apply SelL.cons | exact Sel.here | apply Sel.there | apply SelL.skip))
   ·
    have hc30 := of_decide_eq_false hc30
    refine WK.skip ?_
    apply WK.goto J30 (ad28, cap28) trivial (by unfold pointsM; dsimp only; rw [if_neg hc30]; exact (by repeat (first | exact KK.nil | refine KK.cons (by first | rfl | (simp; done)) ?_)))
    unfold pointsM
    dsimp only
    rw [if_neg hc30]
    exact (by repeat (first | exact SelL.nil | exact SelL.self | apply SelL.cons | exact Sel.here | apply Sel.there | apply SelL.skip))
set_option maxRecDepth 20000 in
set_option maxHeartbeats 2000000 in
theorem same_spec (p p2 : Bool) (ad ad2 : Option Addr) (len cap len2 cap2 : Nat) (l m : List HomeM) (hlen : len ≤ 1000000) :
  Triple Tryz.prog 20 #[.slice ad len cap, .slice ad2 len2 cap2] [sl p 84 2 ad len cap (homesC l), sl p2 83 2 ad2 len2 cap2 (homesC m)] (Unit) (fun _ => True) (fun _ => .bool (decide (l = m))) (fun _ => [sl p 84 2 ad len cap (homesC l), sl p2 83 2 ad2 len2 cap2 (homesC m)]) := by
 refine Triple.of_body (args := [.slice ad len cap, .slice ad2 len2 cap2]) Tryz.func20 rfl Tryz.ntmps20 (by simp) (fun g F => ?_)
 dsimp only [numb, List.cons_append, List.nil_append]
 refine WK.know (fun w s => Sat.slLen (s.sel1 (A := sl p 84 2 ad len cap (homesC l)) (by repeat (first | exact .here | apply Sel.there)))) (fun hkn => ?_)
 obtain ⟨n1, -⟩ := hkn
 rw [homesC_len] at n1
 replace n1 : l.length = _ := Nat.eq_of_mul_eq_mul_right (by omega) n1
 refine WK.know (fun w s => Sat.slLen (s.sel1 (A := sl p2 83 2 ad2 len2 cap2 (homesC m)) (by repeat (first | exact .here | apply Sel.there)))) (fun hkn => ?_)
 obtain ⟨n2, -⟩ := hkn
 rw [homesC_len] at n2
 replace n2 : m.length = _ := Nat.eq_of_mul_eq_mul_right (by omega) n2
 refine WK.seq ?_
 refine WK.region ?_
 refine Ly y_assign ?_
 refine WL.done ?_
 refine WK.seq ?_
 refine WK.seq ?_
 refine WK.region ?_
 refine Ly y_move ?_
 refine Ly (y_len (hu := by exact Tryz.runUnderlying30)) ?_
 refine Ly y_move ?_
 refine Ly (y_len (hu := by exact Tryz.runUnderlying23)) ?_
 refine Ly y_neq ?_
 refine WL.done ?_
 refine Kcond (ht := fun hc10 => ?_) (hf := fun hc10 => ?_)
 ·
  have hc10 := of_decide_eq_true hc10
  refine WK.seq ?_
  refine WK.region ?_
  refine Ly y_assign ?_
  refine WL.done ?_
  refine WK.ret ?_
  repeat (first | refine RQ.block ?_ | refine RQ.then_ ?_)
  refine RQ.body (results1 (by rfl) (by rfl)) (fun w s => ?_)
  refine ⟨(), trivial, ?_, s.toCs (by repeat (first | exact SelL.nil | exact SelL.self | apply SelL.cons | exact Sel.here | apply Sel.there | apply SelL.skip))⟩
  rw [decide_eq_false (fun e => by have := congrArg List.length e; omega)]
 ·
  have hc10 := of_decide_eq_false hc10
  refine WK.skip ?_
  refine WK.seq ?_
  refine WK.seq ?_
  refine WK.region ?_
  refine Ly y_assign ?_
  refine WL.done ?_
  refine WK.block ?_
  refine Kloop (ι := Nat) (fun i => i ≤ len ∧ ∀ (j : Nat) (x y : HomeM), j < i → l[j]? = some x → m[j]? = some y → x.frm = y.frm ∧ x.shard = y.shard) (fun i => [(0, .slice ad len cap), (1, .slice ad2 len2 cap2), (5, .int .i64 (i : Int))]) (fun _ => sl p 84 2 ad len cap (homesC l) :: sl p2 83 2 ad2 len2 cap2 (homesC m) :: F) (fun i => len - i) (0) (⟨Nat.zero_le _, fun j x y h => absurd h (Nat.not_lt_zero _)⟩) (round := ?_)
  rintro i ⟨hi, hok⟩ N hN
  refine WK.seq ?_
  refine WK.seq ?_
  refine WK.region ?_
  refine Ly y_move ?_
  refine Ly y_move ?_
  refine Ly (y_len (hu := by exact Tryz.runUnderlying30)) ?_
  refine Ly y_lss ?_
  refine WL.done ?_
  refine Kcond (ht := fun hc14 => ?_) (hf := fun hc14 => ?_)
  ·
   have hc14 := of_decide_eq_true hc14
   obtain ⟨x, hx⟩ : ∃ x, l[i]? = some x := ⟨_, List.getElem?_eq_getElem (by omega)⟩
   obtain ⟨y, hy⟩ : ∃ x, m[i]? = some x := ⟨_, List.getElem?_eq_getElem (by omega)⟩
   refine WK.skip ?_
   refine WK.seq ?_
   refine WK.block ?_
   refine WK.seq ?_
   refine KdrQ (l := [(0, 0), (1, 0), (2, 0), (3, 0), (4, 0), (5, 0), (6, 0), (7, 0), (8, 0), (9, 0), (10, 0), (11, 0), (12, 0), (13, 0), (14, 0), (15, 0), (16, 0), (17, 0), (18, 0), (19, 0), (20, 0), (21, 0), (22, 0), (23, 0)]) (h := ?_)
   refine Oy (y := y_move) (h := ?_)
   refine Oy (y := y_move) (h := ?_)
   refine Oy (y := y_indexAddrS (hu := by exact Tryz.runUnderlying30) (hz := by exact Tryz.sizeOf84) (j := i) (hi := by first | rfl | omega) (hj' := by omega) (hj := by omega)) (h := ?_)
   refine Oy (y := y_fieldAddrS (hu := by exact Tryz.runUnderlying84) (hs := by exact Tryz.sizeOf3)) (h := ?_)
   refine Oy (y := y_loadS (ha := by exact Tryz.isAgg3) (hv := by exact homesC_f hx (by rfl))) (h := ?_)
   refine Oy (y := y_move) (h := ?_)
   refine Oy (y := y_move) (h := ?_)
   refine Oy (y := y_indexAddrS (hu := by exact Tryz.runUnderlying23) (hz := by exact Tryz.sizeOf83) (j := i) (hi := by first | rfl | omega) (hj' := by omega) (hj := by omega)) (h := ?_)
   refine Oy (y := y_fieldAddrS (hu := by exact Tryz.runUnderlying83) (hs := by exact Tryz.sizeOf3)) (h := ?_)
   refine Oy (y := y_loadS (ha := by exact Tryz.isAgg3) (hv := by exact homesC_f hy (by rfl))) (h := ?_)
   refine Oy (y := y_neq) (h := ?_)
   refine Oy (y := y_move) (h := ?_)
   refine WO.split (d := 28) (by rfl) (fun hc28 => ?_) (fun hc28 => ?_)
   ·
    have hc28 := of_decide_eq_true hc28
    refine Oz (h := ?_)
    refine Oz (h := ?_)
    refine Oz (h := ?_)
    refine Oz (h := ?_)
    refine Oz (h := ?_)
    refine Oz (h := ?_)
    refine Oz (h := ?_)
    refine Oz (h := ?_)
    refine Oz (h := ?_)
    refine Oz (h := ?_)
    refine Oz (h := ?_)
    refine Oy (y := y_pick_true) (h := ?_)
    refine WO.done ?_
    refine Kcond (ht := fun _ => ?_) (hf := fun h => by cases h)
    refine WK.seq ?_
    refine WK.region ?_
    refine Ly y_assign ?_
    refine WL.done ?_
    refine WK.ret ?_
    repeat (first | refine RQ.block ?_ | refine RQ.then_ ?_)
    refine RQ.body (results1 (by rfl) (by rfl)) (fun w s => ?_)
    refine ⟨(), trivial, ?_, s.toCs (by repeat (first | exact SelL.nil | exact SelL.self | apply SelL.cons | exact Sel.here | apply Sel.there | apply SelL.skip))⟩
    rw [decide_eq_false]
    rintro rfl
    cases hx.symm.trans hy
    first | exact hc27 rfl | exact hc39 rfl | exact hc40 rfl | exact hc28 rfl
   ·
    have hc28 := of_decide_eq_false hc28
    refine Oyg (y := y_move) (h := ?_)
    refine Oyg (y := y_move) (h := ?_)
    refine Oyg (y := y_indexAddrS (hu := by exact Tryz.runUnderlying30) (hz := by exact Tryz.sizeOf84) (j := i) (hi := by first | rfl | omega) (hj' := by omega) (hj := by omega)) (h := ?_)
    refine Oyg (y := y_fieldAddrS (hu := by exact Tryz.runUnderlying84) (hs := by exact Tryz.sizeOf3)) (h := ?_)
    refine Oyg (y := y_loadS (ha := by exact Tryz.isAgg3) (hv := by exact homesC_s hx (by rfl))) (h := ?_)
    refine Oyg (y := y_move) (h := ?_)
    refine Oyg (y := y_move) (h := ?_)
    refine Oyg (y := y_indexAddrS (hu := by exact Tryz.runUnderlying23) (hz := by exact Tryz.sizeOf83) (j := i) (hi := by first | rfl | omega) (hj' := by omega) (hj := by omega)) (h := ?_)
    refine Oyg (y := y_fieldAddrS (hu := by exact Tryz.runUnderlying83) (hs := by exact Tryz.sizeOf3)) (h := ?_)
    refine Oyg (y := y_loadS (ha := by exact Tryz.isAgg3) (hv := by exact homesC_s hy (by rfl))) (h := ?_)
    refine Oyg (y := y_neq) (h := ?_)
    refine Oy (y := y_pick_false) (h := ?_)
    refine WO.done ?_
    refine Kcond (ht := fun hc40 => ?_) (hf := fun hc40 => ?_)
    ·
     have hc40 := of_decide_eq_true hc40
     refine WK.seq ?_
     refine WK.region ?_
     refine Ly y_assign ?_
     refine WL.done ?_
     refine WK.ret ?_
     repeat (first | refine RQ.block ?_ | refine RQ.then_ ?_)
     refine RQ.body (results1 (by rfl) (by rfl)) (fun w s => ?_)
     refine ⟨(), trivial, ?_, s.toCs (by repeat (first | exact SelL.nil | exact SelL.self | apply SelL.cons | exact Sel.here | apply Sel.there | apply SelL.skip))⟩
     rw [decide_eq_false]
     rintro rfl
     cases hx.symm.trans hy
     first | exact hc27 rfl | exact hc39 rfl | exact hc40 rfl | exact hc28 rfl
    ·
     have hc40 := of_decide_eq_false hc40
     refine WK.skip ?_
     refine WK.endBlock ?_
     refine WK.region ?_
     refine Ly y_move ?_
     refine Ly y_add ?_
     refine Ly y_assign ?_
     refine WL.done ?_
     refine Knext hN (i + 1) ⟨by omega, fun j x1 y1 hj h1 h2 => ?_⟩ (by omega)
     by_cases hji : j = i
     · subst hji
       cases hx.symm.trans h1
       cases hy.symm.trans h2
       omega
     · exact hok j x1 y1 (by omega) h1 h2
  ·
   have hc14 := of_decide_eq_false hc14
   refine WK.exit ?_
   repeat (first | refine XQ.then_ ?_ | refine XQ.block (by rfl) ?_)
   refine XQ.here ?_
   refine WK.seq ?_
   refine WK.region ?_
   refine Ly y_assign ?_
   refine WL.done ?_
   refine WK.ret ?_
   repeat (first | refine RQ.block ?_ | refine RQ.then_ ?_)
   refine RQ.body (results1 (by rfl) (by rfl)) (fun w s => ?_)
   refine ⟨(), trivial, ?_, s.toCs (by repeat (first | exact SelL.nil | exact SelL.self | apply SelL.cons | exact Sel.here | apply Sel.there | apply SelL.skip))⟩
   rw [decide_eq_true (homes_eq (by omega) fun j x y h1 h2 => hok j x y (by have := (List.getElem?_eq_some_iff.1 h1).1; omega) h1 h2)]
end Go.Proofs.YtkakfmcjiabjjaaGreatDoor
