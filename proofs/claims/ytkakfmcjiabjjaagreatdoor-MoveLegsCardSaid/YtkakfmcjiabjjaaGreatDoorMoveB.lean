import Derived.Test.YtkakfmcjiabjjaaGreatDoorMoveA
namespace Go.Proofs.YtkakfmcjiabjjaaGreatDoor
set_option linter.unusedVariables false
set_option linter.unusedSimpArgs false
set_option linter.unusedSectionVars false
set_option linter.unnecessarySimpa false
open Go Go.Sep
attribute [local irreducible] row sl mapO held exL allR byt mapI slr
theorem normF_new {o : List HomeM} {x : Int × Int} (h : o.length = 0 ∨ ∃ h, o[o.length - 1]? = some h ∧ h.shard ≠ x.2) : normF o x = o ++ [⟨x.1, x.2⟩] := by
  unfold normF
  rw [if_neg]
  rw [List.getLast?_eq_getElem?]
  rcases h with h | ⟨h, e, hn⟩
  · rw [List.getElem?_eq_none (by omega)]
    simp
  · rw [e]
    simpa using hn
theorem normF_same {o : List HomeM} {x : Int × Int} {h : HomeM} (e : o[o.length - 1]? = some h) (hs : h.shard = x.2) : normF o x = o := by
  unfold normF
  rw [if_pos]
  rw [List.getLast?_eq_getElem?, e]
  simp [hs]
theorem normF_len (o : List HomeM) (x : Int × Int) : (normF o x).length ≤ o.length + 1 := by
  unfold normF
  split <;> simp
theorem normM_len (l : List (Int × Int)) : (normM l).length ≤ l.length := by
  have key : ∀ (l : List (Int × Int)) (o : List HomeM), (l.foldl normF o).length ≤ o.length + l.length := by
    intro l
    induction l with
    | nil => intro o; simp
    | cons x l ih =>
      intro o
      have h1 := ih (normF o x)
      have h2 := normF_len o x
      simp only [List.foldl_cons, List.length_cons]
      omega
  have := key l []
  simpa [normM] using this
theorem normM_more {l : List (Int × Int)} {i : Nat} {x : Int × Int} (e : l[i]? = some x) : normM (l.take (i + 1)) = normF (normM (l.take i)) x := by
  unfold normM
  rw [List.take_add_one, e, List.foldl_append]
  rfl
theorem zip_get {α β : Type} {l : List α} {m : List β} {i : Nat} {x : α} {y : β} (hx : l[i]? = some x) (hy : m[i]? = some y) : (l.zip m)[i]? = some (x, y) := by
  simp [List.getElem?_zip_eq_some, hx, hy]
theorem tdiv2_range {a : Int} (h : -9223372036854775808 ≤ a ∧ a ≤ 9223372036854775807) : -9223372036854775808 ≤ a.tdiv 2 ∧ a.tdiv 2 ≤ 9223372036854775807 := by
  by_cases h0 : 0 ≤ a
  · rw [Int.tdiv_eq_ediv_of_nonneg h0]
    omega
  · have : a.tdiv 2 = -((-a).tdiv 2) := by rw [Int.neg_tdiv, Int.neg_neg]
    rw [this, Int.tdiv_eq_ediv_of_nonneg (by omega)]
    omega
/-- The reference's generator of homes: the state behind n rounds. -/
def homesGo (shards : Int) (l : List Int) (at_ : Int) : Nat → Int × List Int × List Int
  | 0 => (1, [1], [pickM l at_ shards])
  | n + 1 =>
    let r := homesGo shards l at_ n
    let nx := r.1 + 1 + pickM l (at_ + 2 * n + 2) 4
    (nx, r.2.1 ++ [nx], r.2.2 ++ [pickM l (at_ + 2 * n + 3) shards])
def refHomesM (shards : Int) (l : List Int) (at_ : Int) : List HomeM :=
  let r := homesGo shards l at_ (pickM l (at_ + 1) 6).toNat
  normM (r.2.1.zip r.2.2)
theorem homesGo_len (shards : Int) (l : List Int) (at_ : Int) : ∀ n, (homesGo shards l at_ n).2.1.length = n + 1 ∧ (homesGo shards l at_ n).2.2.length = n + 1 ∧ 1 ≤ (homesGo shards l at_ n).1 ∧ (homesGo shards l at_ n).1 ≤ 1 + 5 * n
  | 0 => by simp [homesGo]
  | n + 1 => by
    have ih := homesGo_len shards l at_ n
    have := pickM_range l (at_ + 2 * n + 2) 4 (by omega)
    simp [homesGo]
    omega
/-- Homes with one number changed. -/
def spoiltM (l : List HomeM) (at_ n : Int) : List HomeM :=
  match l[(aroundM (at_.tdiv 2) l.length).toNat]? with
  | some h => if aroundM at_ 2 = 0 then l.set (aroundM (at_.tdiv 2) l.length).toNat ⟨n, h.shard⟩ else l.set (aroundM (at_.tdiv 2) l.length).toNat ⟨h.frm, n⟩
  | none => []
theorem spoiltM_len (l : List HomeM) (at_ n : Int) : (spoiltM l at_ n).length ≤ l.length := by
  unfold spoiltM
  split
  · split <;> simp
  · simp
set_option maxRecDepth 20000 in
set_option maxHeartbeats 2000000 in
theorem normal_spec (p p2 : Bool) (ad ad2 : Option Addr) (len cap cap2 : Nat) (fs ss : List Int) (hlen : len ≤ 100000) :
  Triple Tryz.prog 33 #[.slice ad len cap, .slice ad2 len cap2] [sl p 3 1 ad len cap (fs.map (Value.int .i64)), sl p2 3 1 ad2 len cap2 (ss.map (Value.int .i64))] (Option Addr × Nat) (fun _ => True) (fun x => .slice x.1 (normM (fs.zip ss)).length x.2) (fun x => [sl true 83 2 x.1 (normM (fs.zip ss)).length x.2 (homesC (normM (fs.zip ss))), sl p 3 1 ad len cap (fs.map (Value.int .i64)), sl p2 3 1 ad2 len cap2 (ss.map (Value.int .i64))]) := by
 refine Triple.of_body (args := [.slice ad len cap, .slice ad2 len cap2]) Tryz.func33 rfl Tryz.ntmps33 (by simp) (fun g F => ?_)
 dsimp only [numb, List.cons_append, List.nil_append]
 refine WK.know (fun w s => Sat.slLen (s.sel1 (A := sl p 3 1 ad len cap (fs.map (Value.int .i64))) (by repeat (first | exact .here | apply Sel.there)))) (fun hkn => ?_)
 obtain ⟨n1, -⟩ := hkn
 simp only [Nat.mul_one, List.length_map] at n1
 refine WK.know (fun w s => Sat.slLen (s.sel1 (A := sl p2 3 1 ad2 len cap2 (ss.map (Value.int .i64))) (by repeat (first | exact .here | apply Sel.there)))) (fun hkn => ?_)
 obtain ⟨n2, -⟩ := hkn
 simp only [Nat.mul_one, List.length_map] at n2
 have hz : (fs.zip ss).length = len := by rw [List.length_zip]; omega
 refine WK.seq ?_
 refine WK.region ?_
 refine Ly y_assign ?_
 refine WL.done ?_
 refine WK.seq ?_
 refine WK.region ?_
 refine Ly y_assign ?_
 refine WL.done ?_
 refine WK.seq ?_
 refine WK.seq ?_
 refine WK.region ?_
 refine Ly y_assign ?_
 refine WL.done ?_
 refine WK.block ?_
 refine WK.sat (fun w s => Sat.nilSl s true 83 2) ?_
 refine Kloop (ι := Nat × Option Addr × Nat) (fun x => x.1 ≤ len) (fun x => [(0, .slice ad len cap), (1, .slice ad2 len cap2), (5, .slice x.2.1 (normM ((fs.zip ss).take x.1)).length x.2.2), (6, .int .i64 (x.1 : Int))]) (fun x => sl true 83 2 x.2.1 (normM ((fs.zip ss).take x.1)).length x.2.2 (homesC (normM ((fs.zip ss).take x.1))) :: sl p 3 1 ad len cap (fs.map (Value.int .i64)) :: sl p2 3 1 ad2 len cap2 (ss.map (Value.int .i64)) :: F) (fun x => len - x.1) ((0, none, 0)) (Nat.zero_le _) (round := ?_)
 rintro ⟨i, ad3, cap3⟩ hi N hN
 dsimp only at hi ⊢
 have ho := normM_len ((fs.zip ss).take i)
 rw [List.length_take] at ho
 obtain ⟨o, hoe⟩ : ∃ o, normM ((fs.zip ss).take i) = o := ⟨_, rfl⟩
 rw [hoe] at ho ⊢
 refine WK.seq ?_
 refine WK.seq ?_
 refine WK.region ?_
 refine Ly y_move ?_
 refine Ly y_move ?_
 refine Ly (y_len (hu := by exact Tryz.runUnderlying22)) ?_
 refine Ly y_lss ?_
 refine WL.done ?_
 refine Kcond (ht := fun hc10 => ?_) (hf := fun hc10 => ?_)
 ·
  have hc10 := of_decide_eq_true hc10
  obtain ⟨f, hf⟩ : ∃ x, fs[i]? = some x := ⟨_, List.getElem?_eq_getElem (by omega)⟩
  obtain ⟨s, hs⟩ : ∃ x, ss[i]? = some x := ⟨_, List.getElem?_eq_getElem (by omega)⟩
  refine WK.skip ?_
  refine WK.seq ?_
  refine WK.block ?_
  refine WK.seq ?_
  refine KdrQ (l := [(0, 0), (1, 0), (2, 0), (3, 0), (4, 0), (5, 0), (6, 0), (7, 0), (8, 0), (9, 0), (10, 0), (11, 0), (12, 0), (13, 0), (14, 0), (15, 0), (16, 0)]) (h := ?_)
  refine Oy (y := y_move) (h := ?_)
  refine Oy (y := y_len (hu := by exact Tryz.runUnderlying23)) (h := ?_)
  refine Oy (y := y_eql) (h := ?_)
  refine Oy (y := y_move) (h := ?_)
  refine WO.split (d := 16) (by rfl) (fun hc16 => ?_) (fun hc16 => ?_)
  ·
   have hc16 := of_decide_eq_true hc16
   refine Oz (h := ?_)
   refine Oz (h := ?_)
   refine Oz (h := ?_)
   refine Oz (h := ?_)
   refine Oz (h := ?_)
   refine Oz (h := ?_)
   refine Oz (h := ?_)
   refine Oz (h := ?_)
   refine Oz (h := ?_)
   refine Oz (h := ?_)
   refine Oz (h := ?_)
   refine Oz (h := ?_)
   refine Oy (y := y_pick_true) (h := ?_)
   refine WO.done ?_
   refine Kcond (ht := fun _ => ?_) (hf := fun h => by cases h)
   refine Kdr (l := [(0, 0), (1, 0), (2, 0), (3, 0), (4, 0), (5, 0), (6, 0), (7, 0), (8, 0), (9, 0), (10, 1), (11, 1), (12, 0)]) (Cs := [sl p 3 1 ad len cap (fs.map (Value.int .i64)), sl p2 3 1 ad2 len cap2 (ss.map (Value.int .i64))]) (h := ?_)
   refine Oy (y := y_move) (h := ?_)
   refine Oy (y := y_move) (h := ?_)
   refine Oy (y := y_move) (h := ?_)
   refine Oy (y := y_indexAddrS (hu := by exact Tryz.runUnderlying22) (hz := by exact Tryz.sizeOf3) (j := i) (hi := by first | rfl | omega) (hj' := by omega) (hj := by omega) (hr := by exact Nat.mul_one _)) (h := ?_)
   refine Oy (y := (y_loadS (ha := by exact Tryz.isAgg3) (hv := (by rw [List.getElem?_map, hf]; rfl)))) (h := ?_)
   refine Oy (y := y_move) (h := ?_)
   refine Oy (y := y_move) (h := ?_)
   refine Oy (y := y_indexAddrS (hu := by exact Tryz.runUnderlying22) (hz := by exact Tryz.sizeOf3) (j := i) (hi := by first | rfl | omega) (hj' := by omega) (hj := by omega) (hr := by exact Nat.mul_one _)) (h := ?_)
   refine Oy (y := (y_loadS (ha := by exact Tryz.isAgg3) (hv := (by rw [List.getElem?_map, hs]; rfl)))) (h := ?_)
   refine Oy (y := y_build (hz := by exact Tryz.zeroValue83) (hu := by exact Tryz.runUnderlying83) (hp := by exact fun w => places83 w Tryz.underlying83) (hne := by first | decide | simp)) (h := ?_)
   refine Oe (e := e_mkSlice1 (hu := by exact Tryz.runUnderlying23) (hk := by exact Tryz.sizeOf83) (hz := by exact Tryz.zeroValue83) (hk0 := by rfl) (hb := by decide) (h1 := by rfl)) (h := ?_)
   rintro b40 -
   try dsimp only
   refine Oe (e := e_append (et := elem23) (htx := by exact Tryz.underlying23) (hb := by omega) (hm := by omega)) (h := ?_)
   rintro ⟨ad41, cap41⟩ -
   try dsimp only
   refine Oy (y := y_assign) (h := ?_)
   refine WO.done ?_
   refine WK.endBlock ?_
   refine WK.region ?_
   refine Ly y_move ?_
   refine Ly y_add ?_
   refine Ly y_assign ?_
   refine WL.done ?_
   apply WK.next hN (i + 1, ad41, cap41) (by dsimp only; omega) (by dsimp only; omega) (by dsimp only; rw [normM_more (zip_get hf hs), hoe, normF_new (.inl (by omega))]; refine KK.cons rfl (KK.cons rfl (KK.cons ?_ (KK.cons rfl KK.nil))); simp [Sep.look])
   dsimp only
   rw [normM_more (zip_get hf hs), hoe, normF_new (.inl (by omega)), homesC_app, List.length_append]
   exact (by repeat (first | exact SelL.nil | exact SelL.self | apply SelL.cons | exact Sel.here | apply Sel.there | apply SelL.skip))
  ·
   have hc16 := of_decide_eq_false hc16
   obtain ⟨q, hq⟩ : ∃ x, o[o.length - 1]? = some x := ⟨_, List.getElem?_eq_getElem (by omega)⟩
   refine Oyg (y := y_move) (h := ?_)
   refine Oyg (y := y_move) (h := ?_)
   refine Oyg (y := y_len (hu := by exact Tryz.runUnderlying23)) (h := ?_)
   refine Oyg (y := y_sub) (h := ?_)
   refine Oyg (y := y_indexAddrS (hu := by exact Tryz.runUnderlying23) (hz := by exact Tryz.sizeOf83) (j := o.length - 1) (hi := by first | rfl | omega) (hj' := by omega) (hj := by omega)) (h := ?_)
   refine Oyg (y := y_fieldAddrS (hu := by exact Tryz.runUnderlying83) (hs := by exact Tryz.sizeOf3)) (h := ?_)
   refine Oyg (y := y_loadS (ha := by exact Tryz.isAgg3) (hv := by exact homesC_s hq (by rfl))) (h := ?_)
   refine Oyg (y := y_move) (h := ?_)
   refine Oyg (y := y_move) (h := ?_)
   refine Oyg (y := y_indexAddrS (hu := by exact Tryz.runUnderlying22) (hz := by exact Tryz.sizeOf3) (j := i) (hi := by first | rfl | omega) (hj' := by omega) (hj := by omega) (hr := by exact Nat.mul_one _)) (h := ?_)
   refine Oyg (y := (y_loadS (ha := by exact Tryz.isAgg3) (hv := (by rw [List.getElem?_map, hs]; rfl)))) (h := ?_)
   refine Oyg (y := y_neq) (h := ?_)
   refine Oy (y := y_pick_false) (h := ?_)
   refine WO.done ?_
   refine Kcond (ht := fun hc29 => ?_) (hf := fun hc29 => ?_)
   ·
    have hc29 := of_decide_eq_true hc29
    refine Kdr (l := [(0, 0), (1, 0), (2, 0), (3, 0), (4, 0), (5, 0), (6, 0), (7, 0), (8, 0), (9, 0), (10, 1), (11, 1), (12, 0)]) (Cs := [sl p 3 1 ad len cap (fs.map (Value.int .i64)), sl p2 3 1 ad2 len cap2 (ss.map (Value.int .i64))]) (h := ?_)
    refine Oy (y := y_move) (h := ?_)
    refine Oy (y := y_move) (h := ?_)
    refine Oy (y := y_move) (h := ?_)
    refine Oy (y := y_indexAddrS (hu := by exact Tryz.runUnderlying22) (hz := by exact Tryz.sizeOf3) (j := i) (hi := by first | rfl | omega) (hj' := by omega) (hj := by omega) (hr := by exact Nat.mul_one _)) (h := ?_)
    refine Oy (y := (y_loadS (ha := by exact Tryz.isAgg3) (hv := (by rw [List.getElem?_map, hf]; rfl)))) (h := ?_)
    refine Oy (y := y_move) (h := ?_)
    refine Oy (y := y_move) (h := ?_)
    refine Oy (y := y_indexAddrS (hu := by exact Tryz.runUnderlying22) (hz := by exact Tryz.sizeOf3) (j := i) (hi := by first | rfl | omega) (hj' := by omega) (hj := by omega) (hr := by exact Nat.mul_one _)) (h := ?_)
    refine Oy (y := (y_loadS (ha := by exact Tryz.isAgg3) (hv := (by rw [List.getElem?_map, hs]; rfl)))) (h := ?_)
    refine Oy (y := y_build (hz := by exact Tryz.zeroValue83) (hu := by exact Tryz.runUnderlying83) (hp := by exact fun w => places83 w Tryz.underlying83) (hne := by first | decide | simp)) (h := ?_)
    refine Oe (e := e_mkSlice1 (hu := by exact Tryz.runUnderlying23) (hk := by exact Tryz.sizeOf83) (hz := by exact Tryz.zeroValue83) (hk0 := by rfl) (hb := by decide) (h1 := by rfl)) (h := ?_)
    rintro b40 -
    try dsimp only
    refine Oe (e := e_append (et := elem23) (htx := by exact Tryz.underlying23) (hb := by omega) (hm := by omega)) (h := ?_)
    rintro ⟨ad41, cap41⟩ -
    try dsimp only
    refine Oy (y := y_assign) (h := ?_)
    refine WO.done ?_
    refine WK.endBlock ?_
    refine WK.region ?_
    refine Ly y_move ?_
    refine Ly y_add ?_
    refine Ly y_assign ?_
    refine WL.done ?_
    apply WK.next hN (i + 1, ad41, cap41) (by dsimp only; omega) (by dsimp only; omega) (by dsimp only; rw [normM_more (zip_get hf hs), hoe, normF_new (.inr ⟨q, hq, hc29⟩)]; refine KK.cons rfl (KK.cons rfl (KK.cons ?_ (KK.cons rfl KK.nil))); simp [Sep.look])
    dsimp only
    rw [normM_more (zip_get hf hs), hoe, normF_new (.inr ⟨q, hq, hc29⟩), homesC_app, List.length_append]
    exact (by repeat (first | exact SelL.nil | exact SelL.self | apply SelL.cons | exact Sel.here | apply Sel.there | apply SelL.skip))
   ·
    have hc29 := of_decide_eq_false hc29
    refine WK.skip ?_
    refine WK.endBlock ?_
    refine WK.region ?_
    refine Ly y_move ?_
    refine Ly y_add ?_
    refine Ly y_assign ?_
    refine WL.done ?_
    apply WK.next hN (i + 1, ad3, cap3) (by dsimp only; omega) (by dsimp only; omega) (by dsimp only; rw [normM_more (zip_get hf hs), hoe, normF_same hq (by omega)]; exact (by repeat (first | exact KK.nil | refine KK.cons (by first | rfl | (simp; done)) ?_)))
    dsimp only
    rw [normM_more (zip_get hf hs), hoe, normF_same hq (by omega)]
    exact (by repeat (first | exact SelL.nil | exact SelL.self | apply SelL.cons | exact Sel.here | apply Sel.there | apply SelL.skip))
 ·
  have hc10 := of_decide_eq_false hc10
  obtain rfl : i = len := by omega
  rw [List.take_of_length_le (by omega)] at hoe
  refine WK.exit ?_
  repeat (first | refine XQ.then_ ?_ | refine XQ.block (by rfl) ?_)
  refine XQ.here ?_
  refine WK.seq ?_
  refine WK.region ?_
  refine Ly y_move ?_
  refine Ly y_assign ?_
  refine WL.done ?_
  refine WK.ret ?_
  repeat (first | refine RQ.block ?_ | refine RQ.then_ ?_)
  refine RQ.body (results1 (by rfl) (by rfl)) (fun w s => ?_)
  refine ⟨(ad3, cap3), trivial, ?_, ?_⟩
  · rw [hoe]
  · rw [hoe]
    exact s.toCs (by repeat (first | exact SelL.nil | exact SelL.self | apply SelL.cons | exact Sel.here | apply Sel.there | apply SelL.skip))
set_option maxRecDepth 20000 in
set_option maxHeartbeats 4000000 in
theorem refHomes_spec (shards : Int) (p : Bool) (ad : Option Addr) (len cap : Nat) (l : List Int) (at_ : Int) (hl : ∀ n ∈ l, -9223372036854775808 ≤ n ∧ n ≤ 9223372036854775807) (h1 : 1 ≤ shards) (h2 : 0 ≤ at_ ∧ at_ ≤ 1000000) :
  Triple Tryz.prog 9 #[.int .i64 shards, .slice ad len cap, .int .i64 at_] [sl p 3 1 ad len cap (l.map (Value.int .i64))] (Option Addr × Nat) (fun _ => True) (fun x => .slice x.1 (refHomesM shards l at_).length x.2) (fun x => [sl true 83 2 x.1 (refHomesM shards l at_).length x.2 (homesC (refHomesM shards l at_)), sl p 3 1 ad len cap (l.map (Value.int .i64))]) := by
 refine Triple.of_body (args := [.int .i64 shards, .slice ad len cap, .int .i64 at_]) Tryz.func9 rfl Tryz.ntmps9 (by simp) (fun g F => ?_)
 dsimp only [numb, List.cons_append, List.nil_append]
 have h6 := pickM_range l (at_ + 1) 6 (by omega)
 obtain ⟨M, hM⟩ : ∃ M : Nat, pickM l (at_ + 1) 6 = M := ⟨(pickM l (at_ + 1) 6).toNat, by omega⟩
 refine WK.seq ?_
 refine WK.region ?_
 refine Ly y_assign ?_
 refine WL.done ?_
 refine WK.seq ?_
 refine WK.region ?_
 refine Le (e_mkSlice1 (hu := by exact Tryz.runUnderlying22) (hk := by exact Tryz.sizeOf3) (hz := by exact Tryz.zeroValue3) (hk0 := by rfl) (hb := by decide) (h1 := by rfl)) ?_
 rintro b11 -
 try dsimp only
 refine Ly y_assign ?_
 refine WL.done ?_
 refine WK.seq ?_
 refine WK.region ?_
 refine Ly y_move ?_
 refine Ly y_move ?_
 refine Ly y_move ?_
 refine Le (e_call (by exact Tryz.call32) (t := pick_spec p ad len cap l at_ shards (by omega) hl)) ?_
 rintro _ -
 try dsimp only
 refine Le (e_mkSlice1 (hu := by exact Tryz.runUnderlying22) (hk := by exact Tryz.sizeOf3) (hz := by exact Tryz.zeroValue3) (hk0 := by rfl) (hb := by decide) (h1 := by rfl)) ?_
 rintro b16 -
 try dsimp only
 refine Ly y_assign ?_
 refine WL.done ?_
 refine WK.seq ?_
 refine WK.region ?_
 refine Ly y_assign ?_
 refine WL.done ?_
 refine WK.seq ?_
 refine WK.seq ?_
 refine WK.region ?_
 refine Ly y_assign ?_
 refine WL.done ?_
 refine WK.block ?_
 refine Kloop (ι := Nat × (Option Addr × Nat) × (Option Addr × Nat)) (fun x => x.1 ≤ M) (fun x => [(0, .int .i64 shards), (1, .slice ad len cap), (2, .int .i64 at_), (7, .slice x.2.1.1 (x.1 + 1) x.2.1.2), (8, .slice x.2.2.1 (x.1 + 1) x.2.2.2), (9, .int .i64 (homesGo shards l at_ x.1).1), (10, .int .i64 (x.1 : Int))]) (fun x => sl true 3 1 x.2.1.1 (x.1 + 1) x.2.1.2 ((homesGo shards l at_ x.1).2.1.map (Value.int .i64)) :: sl true 3 1 x.2.2.1 (x.1 + 1) x.2.2.2 ((homesGo shards l at_ x.1).2.2.map (Value.int .i64)) :: sl p 3 1 ad len cap (l.map (Value.int .i64)) :: F) (fun x => M - x.1) ((0, (some ⟨b11, 0, none⟩, 1), (some ⟨b16, 0, none⟩, 1))) (Nat.zero_le _) (round := ?_)
 rintro ⟨i, ⟨ad7, cap7⟩, ⟨ad8, cap8⟩⟩ hi N hN
 dsimp only at hi ⊢
 obtain ⟨g1, g2, g3, g4⟩ := homesGo_len shards l at_ i
 refine WK.seq ?_
 refine WK.seq ?_
 refine WK.region ?_
 refine Ly y_move ?_
 refine Ly y_move ?_
 refine Ly y_move ?_
 refine Ly y_add ?_
 refine Le (e_call (by exact Tryz.call32) (t := pick_spec p ad len cap l (at_ + 1) 6 (by omega) hl)) ?_
 rintro _ -
 rw [hM]
 try dsimp only
 refine Ly y_lss ?_
 refine WL.done ?_
 refine Kcond (ht := fun hc22 => ?_) (hf := fun hc22 => ?_)
 ·
  have hc22 := of_decide_eq_true hc22
  refine WK.skip ?_
  refine WK.seq ?_
  refine WK.block ?_
  refine WK.seq ?_
  refine WK.region ?_
  refine Ly y_move ?_
  refine Ly y_add ?_
  refine Ly y_move ?_
  refine Ly y_move ?_
  refine Ly y_move ?_
  refine Ly y_mul ?_
  refine Ly y_add ?_
  refine Ly y_add ?_
  refine Le (e_call (by exact Tryz.call32) (t := pick_spec p ad len cap l (at_ + 2 * (i : Int) + 2) 4 (by omega) hl)) ?_
  rintro _ -
  have h33 := pickM_range l (at_ + 2 * (i : Int) + 2) 4 (by omega)
  try dsimp only
  refine Ly y_add ?_
  refine Ly y_assign ?_
  refine WL.done ?_
  refine WK.seq ?_
  refine WK.region ?_
  refine Ly y_move ?_
  refine Ly y_move ?_
  refine Le (e_mkSlice1 (hu := by exact Tryz.runUnderlying22) (hk := by exact Tryz.sizeOf3) (hz := by exact Tryz.zeroValue3) (hk0 := by rfl) (hb := by decide) (h1 := by rfl)) ?_
  rintro b37 -
  try dsimp only
  refine Le (e_append (et := elem22) (htx := by exact Tryz.underlying22) (hb := by omega) (hm := by omega)) ?_
  rintro ⟨ad38, cap38⟩ -
  try dsimp only
  refine Ly y_assign ?_
  refine WL.done ?_
  refine WK.region ?_
  refine Ly y_move ?_
  refine Ly y_move ?_
  refine Ly y_move ?_
  refine Ly y_move ?_
  refine Ly y_mul ?_
  refine Ly y_add ?_
  refine Ly y_add ?_
  refine Ly y_move ?_
  refine Le (e_call (by exact Tryz.call32) (t := pick_spec p ad len cap l (at_ + 2 * (i : Int) + 3) shards (by omega) hl)) ?_
  rintro _ -
  try dsimp only
  refine Le (e_mkSlice1 (hu := by exact Tryz.runUnderlying22) (hk := by exact Tryz.sizeOf3) (hz := by exact Tryz.zeroValue3) (hk0 := by rfl) (hb := by decide) (h1 := by rfl)) ?_
  rintro b48 -
  try dsimp only
  refine Le (e_append (et := elem22) (htx := by exact Tryz.underlying22) (hb := by omega) (hm := by omega)) ?_
  rintro ⟨ad49, cap49⟩ -
  try dsimp only
  refine Ly y_assign ?_
  refine WL.done ?_
  refine WK.endBlock ?_
  refine WK.region ?_
  refine Ly y_move ?_
  refine Ly y_add ?_
  refine Ly y_assign ?_
  refine WL.done ?_
  apply WK.next hN (i + 1, (ad38, cap38), (ad49, cap49)) (by dsimp only; omega) (by dsimp only; omega) (by repeat (first | exact KK.nil | refine KK.cons (by first | rfl | (simp; done)) ?_))
  dsimp only
  simp only [homesGo, List.map_append]
  exact (by repeat (first | exact SelL.nil | exact SelL.self | apply SelL.cons | exact Sel.here | apply Sel.there | apply SelL.skip))
 ·
  have hc22 := of_decide_eq_false hc22
  obtain rfl : M = i := by omega
  refine WK.exit ?_
  repeat (first | refine XQ.then_ ?_ | refine XQ.block (by rfl) ?_)
  refine XQ.here ?_
  refine WK.seq ?_
  refine WK.region ?_
  refine Ly y_move ?_
  refine Ly y_move ?_
  refine Le (e_call (by exact Tryz.call33) (t := normal_spec true true ad7 ad8 (M + 1) cap7 cap8 _ _ (by omega))) ?_
  rintro ⟨ad52, cap52⟩ -
  try dsimp only
  refine Ly y_assign ?_
  refine WL.done ?_
  refine WK.ret ?_
  repeat (first | refine RQ.block ?_ | refine RQ.then_ ?_)
  refine RQ.body (results1 (by rfl) (by rfl)) (fun w s => ?_)
  refine ⟨(ad52, cap52), trivial, ?_, ?_⟩
  · rw [refHomesM, hM]
    rfl
  · rw [refHomesM, hM]
    exact s.toCs (by repeat (first | exact SelL.nil | exact SelL.self | apply SelL.cons | exact Sel.here | apply Sel.there | apply SelL.skip))
set_option maxRecDepth 20000 in
set_option maxHeartbeats 2000000 in
theorem spoilt_spec (p : Bool) (ad : Option Addr) (len cap : Nat) (l : List HomeM) (hlen : len ≤ 1000000) (at_ n : Int) (hat : -9223372036854775808 ≤ at_ ∧ at_ ≤ 9223372036854775807) :
  Triple Tryz.prog 11 #[.slice ad len cap, .int .i64 at_, .int .i64 n] [sl p 83 2 ad len cap (homesC l)] (Option Addr × Nat) (fun _ => True) (fun x => .slice x.1 (spoiltM l at_ n).length x.2) (fun x => [sl true 83 2 x.1 (spoiltM l at_ n).length x.2 (homesC (spoiltM l at_ n)), sl p 83 2 ad len cap (homesC l)]) := by
 refine Triple.of_body (args := [.slice ad len cap, .int .i64 at_, .int .i64 n]) Tryz.func11 rfl Tryz.ntmps11 (by simp) (fun g F => ?_)
 dsimp only [numb, List.cons_append, List.nil_append]
 refine WK.know (fun w s => Sat.slLen (s.sel1 (A := sl p 83 2 ad len cap (homesC l)) (by repeat (first | exact .here | apply Sel.there)))) (fun hkn => ?_)
 obtain ⟨n1, -⟩ := hkn
 rw [homesC_len] at n1
 replace n1 : l.length = _ := Nat.eq_of_mul_eq_mul_right (by omega) n1
 have hat2 := tdiv2_range hat
 refine WK.seq ?_
 refine WK.region ?_
 refine Ly y_assign ?_
 refine WL.done ?_
 refine WK.seq ?_
 refine WK.region ?_
 refine Ly y_assign ?_
 refine WL.done ?_
 refine WK.seq ?_
 refine WK.sat (fun w s => Sat.nilSl s true 83 2) ?_
 refine WK.region ?_
 refine Ly y_move ?_
 refine Ly y_move ?_
 refine Le (e_append (et := elem23) (htx := by exact Tryz.underlying23) (hb := by omega) (hm := by omega)) ?_
 rintro ⟨ad11, cap11⟩ -
 try dsimp only
 refine Ly y_assign ?_
 refine WL.done ?_
 refine WK.seq ?_
 refine WK.seq ?_
 rw [Nat.zero_add, List.nil_append]
 refine WK.region ?_
 refine Ly y_move ?_
 refine Ly (y_len (hu := by exact Tryz.runUnderlying23)) ?_
 refine Ly y_eql ?_
 refine WL.done ?_
 refine Kcond (ht := fun hc14 => ?_) (hf := fun hc14 => ?_)
 ·
  have hc14 := of_decide_eq_true hc14
  refine WK.seq ?_
  refine WK.region ?_
  refine Ly y_move ?_
  refine Ly y_assign ?_
  refine WL.done ?_
  refine WK.ret ?_
  repeat (first | refine RQ.block ?_ | refine RQ.then_ ?_)
  refine RQ.body (results1 (by rfl) (by rfl)) (fun w s => ?_)
  obtain rfl : l = [] := List.eq_nil_of_length_eq_zero (by omega)
  obtain rfl : len = 0 := by omega
  have hsp : spoiltM [] at_ n = [] := by simp [spoiltM]
  refine ⟨(ad11, cap11), trivial, by rw [hsp]; rfl, ?_⟩
  rw [hsp]
  exact s.toCs (by repeat (first | exact SelL.nil | exact SelL.self | apply SelL.cons | exact Sel.here | apply Sel.there | apply SelL.skip))
 ·
  have hc14 := of_decide_eq_false hc14
  refine WK.skip ?_
  refine WK.seq ?_
  refine WK.region ?_
  refine Ly y_move ?_
  refine Ly (y_quo (hr := by exact w64 hat2.1 hat2.2)) ?_
  refine Ly y_move ?_
  refine Ly (y_len (hu := by exact Tryz.runUnderlying23)) ?_
  refine Le (e_call (by exact Tryz.call10) (t := around_spec (at_.tdiv 2) len hat2 (by omega))) ?_
  rintro _ -
  have h20 := aroundM_range (at_.tdiv 2) len (by omega)
  obtain ⟨k, hk⟩ : ∃ k : Nat, aroundM (at_.tdiv 2) len = k := ⟨(aroundM (at_.tdiv 2) len).toNat, by omega⟩
  rw [hk]
  obtain ⟨q, hq⟩ : ∃ x, l[k]? = some x := ⟨_, List.getElem?_eq_getElem (by omega)⟩
  try dsimp only
  refine Ly y_assign ?_
  refine WL.done ?_
  refine WK.seq ?_
  refine WK.seq ?_
  refine WK.region ?_
  refine Ly y_move ?_
  refine Le (e_call (by exact Tryz.call10) (t := around_spec at_ 2 hat (by omega))) ?_
  rintro _ -
  try dsimp only
  refine Ly y_eql ?_
  refine WL.done ?_
  refine Kcond (ht := fun hc23 => ?_) (hf := fun hc23 => ?_)
  ·
   have hc23 := of_decide_eq_true hc23
   refine WK.region ?_
   refine Ly y_move ?_
   refine Ly y_move ?_
   refine Ly y_move ?_
   refine Ly (y_indexAddrS (hu := by exact Tryz.runUnderlying23) (hz := by exact Tryz.sizeOf83) (j := k) (hi := by first | rfl | omega) (hj' := by omega) (hj := by omega)) ?_
   refine Ly (y_fieldAddrS (hu := by exact Tryz.runUnderlying83) (hs := by exact Tryz.sizeOf3)) ?_
   refine Le0 (e_storeS (hm := by exact Tryz.sizeOf3) (h1 := by rfl) (hne := by first | (simp; done) | (intro h; cases h)) (hl' := SetAts.cons (SetAt.mk (show k * 2 + 0 < _ from by rw [homesC_len]; omega)) SetAts.nil)) ?_
   rintro _ -
   try dsimp only
   refine WL.done ?_
   refine WK.seq ?_
   refine WK.region ?_
   refine Ly y_move ?_
   refine Ly y_assign ?_
   refine WL.done ?_
   refine WK.ret ?_
   repeat (first | refine RQ.block ?_ | refine RQ.then_ ?_)
   refine RQ.body (results1 (by rfl) (by rfl)) (fun w s => ?_)
   have hsp : spoiltM l at_ n = l.set k ⟨n, q.shard⟩ := by
     unfold spoiltM
     rw [n1, hk, show ((k : Int)).toNat = k from rfl, hq]
     exact if_pos hc23
   have hset := homesC_set l k q hq n
   refine ⟨(ad11, cap11), trivial, by rw [hsp, List.length_set, n1], ?_⟩
   rw [hsp, List.length_set, n1, ← hset.1]
   exact s.toCs (by repeat (first | exact SelL.nil | exact SelL.self | apply SelL.cons | exact Sel.here | apply Sel.there | apply SelL.skip))
  ·
   have hc23 := of_decide_eq_false hc23
   refine WK.region ?_
   refine Ly y_move ?_
   refine Ly y_move ?_
   refine Ly y_move ?_
   refine Ly (y_indexAddrS (hu := by exact Tryz.runUnderlying23) (hz := by exact Tryz.sizeOf83) (j := k) (hi := by first | rfl | omega) (hj' := by omega) (hj := by omega)) ?_
   refine Ly (y_fieldAddrS (hu := by exact Tryz.runUnderlying83) (hs := by exact Tryz.sizeOf3)) ?_
   refine Le0 (e_storeS (hm := by exact Tryz.sizeOf3) (h1 := by rfl) (hne := by first | (simp; done) | (intro h; cases h)) (hl' := SetAts.cons (SetAt.mk (show k * 2 + 1 < _ from by rw [homesC_len]; omega)) SetAts.nil)) ?_
   rintro _ -
   try dsimp only
   refine WL.done ?_
   refine WK.seq ?_
   refine WK.region ?_
   refine Ly y_move ?_
   refine Ly y_assign ?_
   refine WL.done ?_
   refine WK.ret ?_
   repeat (first | refine RQ.block ?_ | refine RQ.then_ ?_)
   refine RQ.body (results1 (by rfl) (by rfl)) (fun w s => ?_)
   have hsp : spoiltM l at_ n = l.set k ⟨q.frm, n⟩ := by
     unfold spoiltM
     rw [n1, hk, show ((k : Int)).toNat = k from rfl, hq]
     exact if_neg hc23
   have hset := homesC_set l k q hq n
   refine ⟨(ad11, cap11), trivial, by rw [hsp, List.length_set, n1], ?_⟩
   rw [hsp, List.length_set, n1, ← hset.2]
   exact s.toCs (by repeat (first | exact SelL.nil | exact SelL.self | apply SelL.cons | exact Sel.here | apply Sel.there | apply SelL.skip))
set_option maxRecDepth 20000 in
set_option maxHeartbeats 2000000 in
theorem homes_spec (p : Bool) (ad : Option Addr) (len cap : Nat) (l : List HomeM) (hlen : len ≤ 1000000) :
  Triple Tryz.prog 13 #[.slice ad len cap] [sl p 83 2 ad len cap (homesC l)] (Option Addr × Nat) (fun _ => True) (fun x => .slice x.1 len x.2) (fun x => [sl true 84 2 x.1 len x.2 (homesC l), sl p 83 2 ad len cap (homesC l)]) := by
 refine Triple.of_body (args := [.slice ad len cap]) Tryz.func13 rfl Tryz.ntmps13 (by simp) (fun g F => ?_)
 dsimp only [numb, List.cons_append, List.nil_append]
 refine WK.know (fun w s => Sat.slLen (s.sel1 (A := sl p 83 2 ad len cap (homesC l)) (by repeat (first | exact .here | apply Sel.there)))) (fun hkn => ?_)
 obtain ⟨n1, -⟩ := hkn
 rw [homesC_len] at n1
 replace n1 : l.length = _ := Nat.eq_of_mul_eq_mul_right (by omega) n1
 refine WK.seq ?_
 refine WK.region ?_
 refine Ly y_assign ?_
 refine WL.done ?_
 refine WK.seq ?_
 refine WK.region ?_
 refine Ly y_assign ?_
 refine WL.done ?_
 refine WK.seq ?_
 refine WK.seq ?_
 refine WK.region ?_
 refine Ly y_assign ?_
 refine WL.done ?_
 refine WK.block ?_
 refine WK.sat (fun w s => Sat.nilSl s true 84 2) ?_
 refine Kloop (ι := Nat × Option Addr × Nat) (fun x => x.1 ≤ len) (fun x => [(0, .slice ad len cap), (3, .slice x.2.1 x.1 x.2.2), (4, .int .i64 (x.1 : Int))]) (fun x => sl true 84 2 x.2.1 x.1 x.2.2 (homesC (l.take x.1)) :: sl p 83 2 ad len cap (homesC l) :: F) (fun x => len - x.1) ((0, none, 0)) (Nat.zero_le _) (round := ?_)
 rintro ⟨i, ad3, cap3⟩ hi N hN
 dsimp only at hi ⊢
 refine WK.seq ?_
 refine WK.seq ?_
 refine WK.region ?_
 refine Ly y_move ?_
 refine Ly y_move ?_
 refine Ly (y_len (hu := by exact Tryz.runUnderlying23)) ?_
 refine Ly y_lss ?_
 refine WL.done ?_
 refine Kcond (ht := fun hc8 => ?_) (hf := fun hc8 => ?_)
 ·
  have hc8 := of_decide_eq_true hc8
  obtain ⟨h, hx⟩ : ∃ x, l[i]? = some x := ⟨_, List.getElem?_eq_getElem (by omega)⟩
  refine WK.skip ?_
  refine WK.seq ?_
  refine WK.block ?_
  refine Kdr (l := [(0, 0), (1, 0), (2, 0), (3, 0), (4, 0), (5, 0), (6, 0), (7, 0), (8, 0), (9, 0), (10, 0), (11, 0), (12, 1), (13, 1), (14, 0)]) (Cs := [sl p 83 2 ad len cap (homesC l)]) (h := ?_)
  refine Oy (y := y_move) (h := ?_)
  refine Oy (y := y_move) (h := ?_)
  refine Oy (y := y_move) (h := ?_)
  refine Oy (y := y_indexAddrS (hu := by exact Tryz.runUnderlying23) (hz := by exact Tryz.sizeOf83) (j := i) (hi := by first | rfl | omega) (hj' := by omega) (hj := by omega)) (h := ?_)
  refine Oy (y := y_fieldAddrS (hu := by exact Tryz.runUnderlying83) (hs := by exact Tryz.sizeOf3)) (h := ?_)
  refine Oy (y := y_loadS (ha := by exact Tryz.isAgg3) (hv := by exact homesC_f hx (by rfl))) (h := ?_)
  refine Oy (y := y_move) (h := ?_)
  refine Oy (y := y_move) (h := ?_)
  refine Oy (y := y_indexAddrS (hu := by exact Tryz.runUnderlying23) (hz := by exact Tryz.sizeOf83) (j := i) (hi := by first | rfl | omega) (hj' := by omega) (hj := by omega)) (h := ?_)
  refine Oy (y := y_fieldAddrS (hu := by exact Tryz.runUnderlying83) (hs := by exact Tryz.sizeOf3)) (h := ?_)
  refine Oy (y := y_loadS (ha := by exact Tryz.isAgg3) (hv := by exact homesC_s hx (by rfl))) (h := ?_)
  refine Oy (y := y_build (hz := by exact Tryz.zeroValue84) (hu := by exact Tryz.runUnderlying84) (hp := by exact fun w => places84 w Tryz.underlying84) (hne := by first | decide | simp)) (h := ?_)
  refine Oe (e := e_mkSlice1 (hu := by exact Tryz.runUnderlying30) (hk := by exact Tryz.sizeOf84) (hz := by exact Tryz.zeroValue84) (hk0 := by rfl) (hb := by decide) (h1 := by rfl)) (h := ?_)
  rintro b23 -
  try dsimp only
  refine Oe (e := e_append (et := elem30) (htx := by exact Tryz.underlying30) (hb := by omega) (hm := by omega)) (h := ?_)
  rintro ⟨ad24, cap24⟩ -
  try dsimp only
  refine Oy (y := y_assign) (h := ?_)
  refine WO.done ?_
  refine WK.endBlock ?_
  refine WK.region ?_
  refine Ly y_move ?_
  refine Ly y_add ?_
  refine Ly y_assign ?_
  refine WL.done ?_
  apply WK.next hN (i + 1, ad24, cap24) (by dsimp only; omega) (by dsimp only; omega) (by repeat (first | exact KK.nil | refine KK.cons (by first | rfl | (simp; done)) ?_))
  dsimp only
  rw [List.take_add_one, hx, Option.toList_some, homesC_app]
  exact (by repeat (first | exact SelL.nil | exact SelL.self | apply SelL.cons | exact Sel.here | apply Sel.there | apply SelL.skip))
 ·
  have hc8 := of_decide_eq_false hc8
  obtain rfl : i = len := by omega
  rw [List.take_of_length_le (by omega)]
  refine WK.exit ?_
  repeat (first | refine XQ.then_ ?_ | refine XQ.block (by rfl) ?_)
  refine XQ.here ?_
  refine WK.seq ?_
  refine WK.region ?_
  refine Ly y_move ?_
  refine Ly y_assign ?_
  refine WL.done ?_
  refine WK.ret ?_
  repeat (first | refine RQ.block ?_ | refine RQ.then_ ?_)
  refine RQ.body (results1 (by rfl) (by rfl)) (fun w s => ?_)
  exact ⟨(ad3, cap3), trivial, rfl, s.toCs (by repeat (first | exact SelL.nil | exact SelL.self | apply SelL.cons | exact Sel.here | apply Sel.there | apply SelL.skip))⟩
end Go.Proofs.YtkakfmcjiabjjaaGreatDoor
