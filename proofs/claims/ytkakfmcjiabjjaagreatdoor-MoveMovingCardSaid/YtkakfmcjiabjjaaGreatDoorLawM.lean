import Derived.Test.YtkakfmcjiabjjaaGreatDoorMoveR
import Derived.Test.YtkakfmcjiabjjaaGreatDoorSortA
namespace Go.Proofs.YtkakfmcjiabjjaaGreatDoor
set_option linter.unusedVariables false
set_option linter.unusedSimpArgs false
set_option linter.unusedSectionVars false
set_option linter.unnecessarySimpa false
open Go Go.Sep
attribute [local irreducible] row sl mapO held exL allR byt mapI slr mapK rangeK vec pack
theorem nodup_le : ∀ {l m : List Int}, l.Nodup → (∀ a ∈ l, a ∈ m) → l.length ≤ m.length
  | [], _, _, _ => Nat.zero_le _
  | a :: l, m, h, hs => by
    have ha : a ∈ m := hs a (by simp)
    obtain ⟨h1, h2⟩ := List.nodup_cons.1 h
    have := nodup_le (l := l) (m := m.erase a) h2 (fun b hb => (List.mem_erase_of_ne (by rintro rfl; exact h1 hb)).2 (hs b (by simp [hb])))
    rw [List.length_erase_of_mem ha] at this
    have := List.length_pos_of_mem ha
    simp only [List.length_cons]
    omega
/-- So many of the first i accounts of l are met for the first time and move. -/
def CntM (X Y : List HomeM) (l : List Int) (i many : Nat) : Prop := ∃ f : List Int, f.Nodup ∧ (∀ a, a ∈ f ↔ a ∈ l.take i ∧ findM X a ≠ findM Y a) ∧ many = f.length
theorem cntM_start {X Y : List HomeM} {l : List Int} : CntM X Y l 0 0 := ⟨[], by simp, by simp, rfl⟩
theorem cntM_same {X Y : List HomeM} {l : List Int} {i many : Nat} {x : Int} (h : CntM X Y l i many) (hx : l[i]? = some x) (hs : x ∈ l.take i ∨ findM X x = findM Y x) : CntM X Y l (i + 1) many := by
  obtain ⟨f, h1, h2, h3⟩ := h
  refine ⟨f, h1, fun a => ?_, h3⟩
  rw [h2, take_succ_mem hx]
  constructor
  · rintro ⟨h4, h5⟩; exact ⟨.inl h4, h5⟩
  · rintro ⟨h4 | rfl, h5⟩
    · exact ⟨h4, h5⟩
    · rcases hs with hs | hs
      · exact ⟨hs, h5⟩
      · exact absurd hs h5
theorem cntM_more {X Y : List HomeM} {l : List Int} {i many : Nat} {x : Int} (h : CntM X Y l i many) (hx : l[i]? = some x) (hn : x ∉ l.take i) (hne : findM X x ≠ findM Y x) : CntM X Y l (i + 1) (many + 1) := by
  obtain ⟨f, h1, h2, h3⟩ := h
  refine ⟨x :: f, List.nodup_cons.2 ⟨fun hf => hn ((h2 x).1 hf).1, h1⟩, fun a => ?_, by simp [h3]⟩
  rw [List.mem_cons, h2, take_succ_mem hx]
  constructor
  · rintro (rfl | ⟨h4, h5⟩)
    · exact ⟨.inr rfl, hne⟩
    · exact ⟨.inl h4, h5⟩
  · rintro ⟨h4 | rfl, h5⟩
    · exact .inr ⟨h4, h5⟩
    · exact .inl rfl
theorem incI_nodup {l : List Int} (h : IncI l) : l.Nodup := h.imp fun {a b} h => by omega
theorem incI_get {l : List Int} (h : IncI l) {i j : Nat} {x y : Int} (hij : i < j) (hx : l[i]? = some x) (hy : l[j]? = some y) : x < y := by
  obtain ⟨hi, rfl⟩ := List.getElem?_eq_some_iff.1 hx
  obtain ⟨hj, rfl⟩ := List.getElem?_eq_some_iff.1 hy
  exact List.pairwise_iff_getElem.1 h i j hi hj hij
theorem cntM_done {X Y : List HomeM} {l r : List Int} {many : Nat} (h : CntM X Y l l.length many) (hr : MovesM X Y l r) : many = r.length := by
  obtain ⟨f, h1, h2, rfl⟩ := h
  rw [List.take_length] at h2
  exact Nat.le_antisymm (nodup_le h1 fun a ha => (hr.mem a).2 ((h2 a).1 ha)) (nodup_le (incI_nodup hr.inc) fun a ha => (h2 a).2 ((hr.mem a).1 ha))
theorem movesM_self {X : List HomeM} {l r : List Int} (h : MovesM X X l r) : r = [] := by
  cases r with
  | nil => rfl
  | cons a t => exact absurd rfl ((h.mem a).1 (by simp)).2
set_option maxRecDepth 20000 in
set_option maxHeartbeats 1000000 in
theorem has_spec (p : Bool) (ad : Option Addr) (len cap : Nat) (l : List Int) (hlen : len ≤ 1000000) (x : Int) :
  Triple Tryz.prog 25 #[.slice ad len cap, .int .i64 x] [sl p 3 1 ad len cap (l.map (Value.int .i64))] (Unit) (fun _ => True) (fun _ => .bool (decide (x ∈ l))) (fun _ => [sl p 3 1 ad len cap (l.map (Value.int .i64))]) := by
 refine Triple.of_body (args := [.slice ad len cap, .int .i64 x]) Tryz.func25 rfl Tryz.ntmps25 (by simp) (fun g F => ?_)
 dsimp only [numb, List.cons_append, List.nil_append]
 refine WK.know (fun w s => Sat.slLen (s.sel1 (A := sl p 3 1 ad len cap (l.map (Value.int .i64))) (by repeat (first | exact .here | apply Sel.there)))) (fun hkn => ?_)
 obtain ⟨n1, -⟩ := hkn
 simp only [Nat.mul_one, List.length_map] at n1
 refine WK.seq ?_
 refine WK.region ?_
 refine Ly y_assign ?_
 refine WL.done ?_
 refine WK.seq ?_
 refine WK.seq ?_
 refine WK.region ?_
 refine Ly y_assign ?_
 refine WL.done ?_
 refine WK.block ?_
 refine Kloop (ι := Nat) (fun i => i ≤ len ∧ x ∉ l.take i) (fun i => [(0, .slice ad len cap), (1, .int .i64 x), (5, .int .i64 (i : Int))]) (fun _ => sl p 3 1 ad len cap (l.map (Value.int .i64)) :: F) (fun i => len - i) (0) (⟨Nat.zero_le _, by simp⟩) (round := ?_)
 rintro i ⟨hi, hno⟩ N hN
 refine WK.seq ?_
 refine WK.seq ?_
 refine WK.region ?_
 refine Ly y_move ?_
 refine Ly y_move ?_
 refine Ly (y_len (hu := by exact Tryz.runUnderlying22)) ?_
 refine Ly y_lss ?_
 refine WL.done ?_
 refine Kcond (ht := fun hc9 => ?_) (hf := fun hc9 => ?_)
 ·
  have hc9 := of_decide_eq_true hc9
  obtain ⟨y, hy⟩ : ∃ x, l[i]? = some x := ⟨_, List.getElem?_eq_getElem (by omega)⟩
  refine WK.skip ?_
  refine WK.seq ?_
  refine WK.block ?_
  refine WK.seq ?_
  refine WK.region ?_
  refine Ly y_move ?_
  refine Ly y_move ?_
  refine Ly (y_indexAddrS (hu := by exact Tryz.runUnderlying22) (hz := by exact Tryz.sizeOf3) (j := i) (hi := by first | rfl | omega) (hj' := by omega) (hj := by omega) (hr := by exact Nat.mul_one _)) ?_
  refine Ly (y_loadS (ha := by exact Tryz.isAgg3) (hv := (by rw [List.getElem?_map, hy]; rfl))) ?_
  refine Ly y_move ?_
  refine Ly y_eql ?_
  refine WL.done ?_
  refine Kcond (ht := fun hc17 => ?_) (hf := fun hc17 => ?_)
  ·
   have hc17 := of_decide_eq_true hc17
   refine WK.seq ?_
   refine WK.region ?_
   refine Ly y_assign ?_
   refine WL.done ?_
   refine WK.ret ?_
   repeat (first | refine RQ.block ?_ | refine RQ.then_ ?_)
   refine RQ.body (results1 (by rfl) (by rfl)) (fun w s => ?_)
   refine ⟨(), trivial, ?_, s.toCs (by repeat (first | exact SelL.nil | exact SelL.self | apply SelL.cons | exact Sel.here | apply Sel.there | apply SelL.skip))⟩
   rw [decide_eq_true (hc17 ▸ List.mem_of_getElem? hy)]
  ·
   have hc17 := of_decide_eq_false hc17
   refine WK.skip ?_
   refine WK.endBlock ?_
   refine WK.region ?_
   refine Ly y_move ?_
   refine Ly y_add ?_
   refine Ly y_assign ?_
   refine WL.done ?_
   refine Knext hN (i + 1) ⟨by omega, fun hm => ?_⟩ (by omega)
   rcases (take_succ_mem hy _).1 hm with hm | hm
   · exact hno hm
   · exact hc17 hm.symm
 ·
  have hc9 := of_decide_eq_false hc9
  refine WK.exit ?_
  repeat (first | refine XQ.then_ ?_ | refine XQ.block (by rfl) ?_)
  refine XQ.here ?_
  refine WK.seq ?_
  refine WK.region ?_
  refine Ly y_assign ?_
  refine WL.done ?_
  refine WK.ret ?_
  repeat (first | refine RQ.block ?_ | refine RQ.then_ ?_)
  refine RQ.body (results1 (by rfl) (by rfl)) (fun w s => ?_)
  refine ⟨(), trivial, ?_, s.toCs (by repeat (first | exact SelL.nil | exact SelL.self | apply SelL.cons | exact Sel.here | apply Sel.there | apply SelL.skip))⟩
  rw [decide_eq_false]
  rwa [List.take_of_length_le (by omega)] at hno
set_option maxRecDepth 20000 in
set_option maxHeartbeats 8000000 in
theorem movingLaw_spec (ad : Option Addr) (len cap : Nat) (l : List Int) (hl : ∀ n ∈ l, -9223372036854775808 ≤ n ∧ n ≤ 9223372036854775807) (ad2 : Option Addr) (len2 cap2 : Nat) (m : List Int) (hm : ∀ n ∈ m, -9223372036854775808 ≤ n ∧ n ≤ 9223372036854775807) (ad3 : Option Addr) (len3 cap3 : Nat) (acc : List Int) (hacc : ∀ n ∈ acc, -9223372036854775808 ≤ n ∧ n ≤ 9223372036854775807) (bad at_ n : Int) (h_bad : -9223372036854775808 ≤ bad ∧ bad ≤ 9223372036854775807) (h_at_ : -9223372036854775808 ≤ at_ ∧ at_ ≤ 9223372036854775807) (h_n : -9223372036854775808 ≤ n ∧ n ≤ 9223372036854775807) :
  Triple Tryz.prog 6 #[.slice ad len cap, .slice ad2 len2 cap2, .slice ad3 len3 cap3, .int .i64 bad, .int .i64 at_, .int .i64 n] [slr 1 ad len (l.map (Value.int .i64)), slr 1 ad2 len2 (m.map (Value.int .i64)), slr 1 ad3 len3 (acc.map (Value.int .i64))] (Unit) (fun _ => True) (fun _ => .bool true) (fun _ => [slr 1 ad len (l.map (Value.int .i64)), slr 1 ad2 len2 (m.map (Value.int .i64)), slr 1 ad3 len3 (acc.map (Value.int .i64))]) := by
 refine Triple.of_body (args := [.slice ad len cap, .slice ad2 len2 cap2, .slice ad3 len3 cap3, .int .i64 bad, .int .i64 at_, .int .i64 n]) Tryz.func6 rfl Tryz.ntmps6 (by simp) (fun g F => ?_)
 dsimp only [numb, List.cons_append, List.nil_append]
 refine WK.know (fun w s => (Sat.slrCell (s.sel1 (A := slr 1 ad3 len3 (acc.map (Value.int .i64))) (by repeat (first | exact .here | apply Sel.there)))).1) (fun n3 => ?_)
 simp only [Nat.mul_one, List.length_map] at n3
 refine WK.seq ?_
 refine WK.region ?_
 refine Ly y_assign ?_
 refine WL.done ?_
 refine WK.seq ?_
 refine WK.region ?_
 refine Ly y_move ?_
 refine Le (e_call (by exact Tryz.call9) (t := refHomesR_spec 4 ad len cap l 0 hl (by omega) (by decide))) ?_
 rintro ⟨xad, xcap⟩ -
 dsimp only
 obtain ⟨G, hG⟩ : ∃ G, refHomesM 4 l 0 = G := ⟨_, rfl⟩
 have hGl := refHomes_len 4 l 0
 rw [hG] at hGl ⊢
 try dsimp only
 refine Ly y_assign ?_
 refine WL.done ?_
 refine WK.seq ?_
 refine WK.region ?_
 refine Ly y_move ?_
 refine Le (e_call (by exact Tryz.call9) (t := refHomesR_spec 4 ad2 len2 cap2 m 0 hm (by omega) (by decide))) ?_
 rintro ⟨yad, ycap⟩ -
 dsimp only
 obtain ⟨H, hH⟩ : ∃ H, refHomesM 4 m 0 = H := ⟨_, rfl⟩
 have hHl := refHomes_len 4 m 0
 rw [hH] at hHl ⊢
 try dsimp only
 refine Ly y_assign ?_
 refine WL.done ?_
 refine WK.seq ?_
 refine WK.region ?_
 refine Ly y_assign ?_
 refine WL.done ?_
 refine WK.seq ?_
 refine WK.seq ?_
 refine WK.region ?_
 refine Ly y_assign ?_
 refine WL.done ?_
 refine WK.block ?_
 refine WK.sat (fun w s => Sat.nilSl s true 3 1) ?_
 refine Kloop (ι := Nat × List Int × Option Addr × Nat) (fun x => x.2.1.length = x.1 ∧ x.1 ≤ 20 ∧ x.1 ≤ len3 ∧ ∀ a ∈ x.2.1, 1 ≤ a ∧ a ≤ 25) (fun x => [(2, .slice ad3 len3 cap3), (3, .int .i64 bad), (4, .int .i64 at_), (5, .int .i64 n), (13, .slice xad G.length xcap), (14, .slice yad H.length ycap), (15, .slice x.2.2.1 x.1 x.2.2.2), (16, .int .i64 (x.1 : Int))]) (fun x => sl true 3 1 x.2.2.1 x.1 x.2.2.2 (x.2.1.map (Value.int .i64)) :: sl true 83 2 xad G.length xcap (homesC G) :: sl true 83 2 yad H.length ycap (homesC H) :: slr 1 ad len (l.map (Value.int .i64)) :: slr 1 ad2 len2 (m.map (Value.int .i64)) :: slr 1 ad3 len3 (acc.map (Value.int .i64)) :: F) (fun x => 20 - x.1) ((0, [], none, 0)) (⟨rfl, Nat.zero_le _, Nat.zero_le _, fun a h => by cases h⟩) (round := ?_)
 rintro ⟨i, L, lad, lcap⟩ ⟨hLi, hi20, hi3, hL25⟩ N hN
 dsimp only at hLi hi20 hi3 hL25 ⊢
 refine WK.seq ?_
 refine WK.seq ?_
 refine WK.cut (ι := Bool) (fun b => b = true ↔ (i < len3 ∧ i < 20)) (fun b => [(39, .bool b), (2, .slice ad3 len3 cap3), (3, .int .i64 bad), (4, .int .i64 at_), (5, .int .i64 n), (13, .slice xad G.length xcap), (14, .slice yad H.length ycap), (15, .slice lad i lcap), (16, .int .i64 (i : Int))]) (fun _ => sl true 3 1 lad i lcap (L.map (Value.int .i64)) :: sl true 83 2 xad G.length xcap (homesC G) :: sl true 83 2 yad H.length ycap (homesC H) :: slr 1 ad len (l.map (Value.int .i64)) :: slr 1 ad2 len2 (m.map (Value.int .i64)) :: slr 1 ad3 len3 (acc.map (Value.int .i64)) :: F) ?_ ?_
 ·
  intro b39 hb39
  refine Kcond (ht := fun hc39 => ?_) (hf := fun hc39 => ?_)
  ·
   have hc39 := hb39.1 hc39
   obtain ⟨a, ha⟩ : ∃ x, acc[i]? = some x := ⟨_, List.getElem?_eq_getElem (by omega)⟩
   refine WK.skip ?_
   refine WK.seq ?_
   refine WK.block ?_
   refine WK.region ?_
   refine Ly y_move ?_
   refine Ly y_move ?_
   refine Ly y_move ?_
   refine Ly (y_indexAddrR (hu := by exact Tryz.runUnderlying22) (hz := by exact Tryz.sizeOf3) (j := i) (hi := by first | rfl | omega) (hj' := by omega) (hj := by omega) (hr := by exact Nat.mul_one _)) ?_
   refine Ly (y_loadR (ha := by exact Tryz.isAgg3) (hv := (by rw [List.getElem?_map, ha]; rfl))) ?_
   refine Le (e_call (by exact Tryz.call10) (t := around_spec a 25 (hacc a (List.mem_of_getElem? ha)) (by omega))) ?_
   rintro _ -
   have h47 := aroundM_range a 25 (by omega)
   try dsimp only
   refine Ly y_add ?_
   refine Le (e_mkSlice1 (hu := by exact Tryz.runUnderlying22) (hk := by exact Tryz.sizeOf3) (hz := by exact Tryz.zeroValue3) (hk0 := by rfl) (hb := by decide) (h1 := by rfl)) ?_
   rintro b49 -
   try dsimp only
   refine Le (e_append (et := elem22) (htx := by exact Tryz.underlying22) (hb := by omega) (hm := by omega)) ?_
   rintro ⟨ad50, cap50⟩ -
   try dsimp only
   refine Ly y_assign ?_
   refine WL.done ?_
   refine WK.endBlock ?_
   refine WK.region ?_
   refine Ly y_move ?_
   refine Ly y_add ?_
   refine Ly y_assign ?_
   refine WL.done ?_
   refine Knext hN (i + 1, L ++ [1 + aroundM a 25], ad50, cap50) ⟨by simp; omega, by dsimp only; omega, by dsimp only; omega, fun b hb => ?_⟩ (by dsimp only; omega) (hP := by dsimp only; rw [List.map_append]; exact (by repeat (first | exact SelL.nil | exact SelL.self | apply SelL.cons | exact Sel.here | apply Sel.there | apply SelL.skip)))
   rcases List.mem_append.1 hb with hb | hb
   · exact hL25 b hb
   · obtain rfl : b = _ := by simpa using hb
     omega
  ·
   have hc39 := mt hb39.2 (by rw [hc39]; simp)
   subst hLi
   refine WK.exit ?_
   repeat (first | refine XQ.then_ ?_ | refine XQ.block (by rfl) ?_)
   refine XQ.here ?_
   refine WK.seq ?_
   refine WK.region ?_
   refine Ly y_assign ?_
   refine WL.done ?_
   refine WK.seq ?_
   refine WK.region ?_
   refine Ly y_move ?_
   refine Le (e_call (by exact Tryz.call10) (t := around_spec bad 6 h_bad (by omega))) ?_
   rintro _ -
   obtain ⟨kk, hkk⟩ : ∃ kk, aroundM bad 6 = kk := ⟨_, rfl⟩
   rw [hkk]
   try dsimp only
   refine Ly y_assign ?_
   refine WL.done ?_
   refine WK.seq ?_
   refine WK.seq ?_
   refine WK.region ?_
   refine Ly y_move ?_
   refine Ly y_eql ?_
   refine WL.done ?_
   refine WK.cut (ι := List HomeM × Option Addr × Nat) (fun x => x.1.length ≤ 7) (fun x => [(4, .int .i64 at_), (5, .int .i64 n), (13, .slice x.2.1 x.1.length x.2.2), (14, .slice yad H.length ycap), (15, .slice lad L.length lcap), (17, .bool true), (18, .int .i64 kk)]) (fun x => sl true 83 2 x.2.1 x.1.length x.2.2 (homesC x.1) :: sl true 83 2 yad H.length ycap (homesC H) :: sl true 3 1 lad L.length lcap (L.map (Value.int .i64)) :: slr 1 ad len (l.map (Value.int .i64)) :: slr 1 ad2 len2 (m.map (Value.int .i64)) :: slr 1 ad3 len3 (acc.map (Value.int .i64)) :: F) ?_ ?_
   ·
    rintro ⟨X, xad, xcap⟩ hX
    dsimp only at hX ⊢
    refine WK.seq ?_
    refine WK.seq ?_
    refine WK.region ?_
    refine Ly y_move ?_
    refine Ly y_eql ?_
    refine WL.done ?_
    refine WK.cut (ι := List HomeM × Option Addr × Nat) (fun x => x.1.length ≤ 7) (fun x => [(4, .int .i64 at_), (5, .int .i64 n), (13, .slice xad X.length xcap), (14, .slice x.2.1 x.1.length x.2.2), (15, .slice lad L.length lcap), (17, .bool true), (18, .int .i64 kk)]) (fun x => sl true 83 2 xad X.length xcap (homesC X) :: sl true 83 2 x.2.1 x.1.length x.2.2 (homesC x.1) :: sl true 3 1 lad L.length lcap (L.map (Value.int .i64)) :: slr 1 ad len (l.map (Value.int .i64)) :: slr 1 ad2 len2 (m.map (Value.int .i64)) :: slr 1 ad3 len3 (acc.map (Value.int .i64)) :: F) ?_ ?_
    ·
     rintro ⟨Y, yad, ycap⟩ hY
     dsimp only at hY ⊢
     refine WK.seq ?_
     refine WK.seq ?_
     refine WK.region ?_
     refine Ly y_move ?_
     refine Ly y_eql ?_
     refine WL.done ?_
     refine WK.cut (ι := List Int × Option Addr × Nat × Bool) (fun x => x.1.length ≤ 21 ∧ (x.2.2.2 = true ↔ ∀ a ∈ x.1, 1 ≤ a ∧ a ≤ 1073741824)) (fun x => [(13, .slice xad X.length xcap), (14, .slice yad Y.length ycap), (15, .slice x.2.1 x.1.length x.2.2.1), (17, .bool x.2.2.2)]) (fun x => sl true 83 2 xad X.length xcap (homesC X) :: sl true 83 2 yad Y.length ycap (homesC Y) :: sl true 3 1 x.2.1 x.1.length x.2.2.1 (x.1.map (Value.int .i64)) :: slr 1 ad len (l.map (Value.int .i64)) :: slr 1 ad2 len2 (m.map (Value.int .i64)) :: slr 1 ad3 len3 (acc.map (Value.int .i64)) :: F) ?_ ?_
     ·
      rintro ⟨L, lad, lcap, gd⟩ ⟨hLl, hgd⟩
      dsimp only at hLl hgd ⊢
      refine WK.seq ?_
      refine WK.cut (ι := Bool) (fun b => b = true ↔ (MovingOK X Y L)) (fun b => [(17, .bool b), (13, .slice xad X.length xcap), (14, .slice yad Y.length ycap), (15, .slice lad L.length lcap)]) (fun _ => sl false 3 1 lad L.length lcap (L.map (Value.int .i64)) :: sl true 83 2 xad X.length xcap (homesC X) :: sl true 83 2 yad Y.length ycap (homesC Y) :: slr 1 ad len (l.map (Value.int .i64)) :: slr 1 ad2 len2 (m.map (Value.int .i64)) :: slr 1 ad3 len3 (acc.map (Value.int .i64)) :: F) ?_ ?_
      ·
       intro b17 hb17
       refine WK.seq ?_
       by_cases hok : MovingOK X Y L
       ·
        obtain rfl : b17 = true := hb17.2 hok
        refine WK.region ?_
        refine Ly y_move ?_
        refine Le (e_call (by exact Tryz.call13) (t := homes_spec true xad X.length xcap X (by omega))) ?_
        rintro ⟨m1, c1⟩ -
        try dsimp only
        refine Ly y_move ?_
        refine Le (e_call (by exact Tryz.call13) (t := homes_spec true yad Y.length ycap Y (by omega))) ?_
        rintro ⟨m2, c2⟩ -
        try dsimp only
        refine Ly y_move ?_
        refine Le (e_call (by exact Tryz.call24) (t := moving_spec 21 (sortI_all 21 (by decide)) true true m1 m2 X.length Y.length c1 c2 X Y (by omega) (by omega) false lad L.length lcap L (by omega) (by omega))) ?_
        rintro x92 hx92
        obtain ⟨⟨R, rad, rcap⟩, rfl⟩ : ∃ y, x92 = some y := by
          cases x92 with
          | none => exact absurd hok hx92
          | some y => exact ⟨y, rfl⟩
        dsimp only at hx92 ⊢
        have hmv : MovesM X Y L R := hx92.2
        have hRl : R.length ≤ 21 := Nat.le_trans (nodup_le (incI_nodup hmv.inc) fun a ha => ((hmv.mem a).1 ha).1) hLl
        try dsimp only
        refine Ly y_move ?_
        refine Ly y_extract ?_
        refine Ly y_extract ?_
        refine Ly y_assign ?_
        refine Ly y_assign ?_
        refine WL.done ?_
        refine WK.seq ?_
        refine WK.seq ?_
        refine WK.region ?_
        refine Ly y_move ?_
        refine Ly y_not ?_
        refine WL.done ?_
        refine Kcond (ht := fun h => by cases h) (hf := fun _ => ?_)
        refine WK.skip ?_
        refine WK.seq ?_
        refine WK.region ?_
        refine Ly y_assign ?_
        refine WL.done ?_
        refine WK.seq ?_
        refine WK.region ?_
        refine Ly y_assign ?_
        refine WL.done ?_
        refine WK.seq ?_
        refine WK.seq ?_
        refine WK.region ?_
        refine Ly y_assign ?_
        refine WL.done ?_
        refine WK.block ?_
        refine Kloop (ι := Nat × Int) (fun x => x.1 ≤ R.length ∧ ∀ (j : Nat) (y : Int), R[j]? = some y → x.1 ≤ j → x.2 < y) (fun x => [(13, .slice xad X.length xcap), (14, .slice yad Y.length ycap), (15, .slice lad L.length lcap), (19, .slice rad R.length rcap), (20, .int .i64 0), (21, .int .i64 x.2), (22, .int .i64 0), (23, .int .i64 (x.1 : Int))]) (fun _ => sl true 3 1 rad R.length rcap (R.map (Value.int .i64)) :: sl false 3 1 lad L.length lcap (L.map (Value.int .i64)) :: sl true 83 2 xad X.length xcap (homesC X) :: sl true 83 2 yad Y.length ycap (homesC Y) :: slr 1 ad len (l.map (Value.int .i64)) :: slr 1 ad2 len2 (m.map (Value.int .i64)) :: slr 1 ad3 len3 (acc.map (Value.int .i64)) :: F) (fun x => R.length - x.1) ((0, 0)) (⟨Nat.zero_le _, fun j y hy _ => by have := hok.2.2 y ((hmv.mem y).1 (List.mem_of_getElem? hy)).1; dsimp only; omega⟩) (round := ?_)
        rintro ⟨i, last⟩ ⟨hi, hlast⟩ N hN
        dsimp only at hi hlast ⊢
        refine WK.seq ?_
        refine WK.seq ?_
        refine WK.region ?_
        refine Ly y_move ?_
        refine Ly y_move ?_
        refine Ly (y_len (hu := by exact Tryz.runUnderlying22)) ?_
        refine Ly y_lss ?_
        refine WL.done ?_
        refine Kcond (ht := fun hc110 => ?_) (hf := fun hc110 => ?_)
        ·
         have hc110 := of_decide_eq_true hc110
         obtain ⟨y, hy⟩ : ∃ x, R[i]? = some x := ⟨_, List.getElem?_eq_getElem (by omega)⟩
         have hyR := (hmv.mem y).1 (List.mem_of_getElem? hy)
         have hyl := hlast i y hy (Nat.le_refl _)
         refine WK.skip ?_
         refine WK.seq ?_
         refine WK.block ?_
         refine WK.seq ?_
         refine WK.seq ?_
         refine Kdr (l := [(0, 0), (1, 0), (2, 0), (3, 0), (4, 0), (5, 0), (6, 0), (7, 0), (8, 0), (9, 0), (10, 0), (11, 0), (12, 1), (13, 0), (14, 0), (15, 0), (16, 0), (17, 0), (18, 0), (19, 0), (20, 0), (22, 0), (23, 0), (24, 0), (25, 0), (26, 0), (21, 1), (27, 1), (28, 0), (29, 0)]) (Cs := [sl true 3 1 rad R.length rcap (R.map (Value.int .i64))]) (h := ?_)
         refine Oy (y := y_move) (h := ?_)
         refine Oy (y := y_move) (h := ?_)
         refine Oy (y := y_indexAddrS (hu := by exact Tryz.runUnderlying22) (hz := by exact Tryz.sizeOf3) (j := i) (hi := by first | rfl | omega) (hj' := by omega) (hj := by omega) (hr := by exact Nat.mul_one _)) (h := ?_)
         refine Oy (y := (y_loadS (ha := by exact Tryz.isAgg3) (hv := (by rw [List.getElem?_map, hy]; rfl)))) (h := ?_)
         refine Oy (y := y_move) (h := ?_)
         refine Oy (y := y_leq) (h := ?_)
         refine Oy (y := y_move) (h := ?_)
         refine WO.split (d := 119) (by rfl) (fun hc119 => ?_) (fun hc119 => ?_)
         ·
          have hc119 := of_decide_eq_true hc119
          exfalso
          omega
         ·
          have hc119 := of_decide_eq_false hc119
          refine Oyg (y := y_move) (h := ?_)
          refine Oyg (y := y_move) (h := ?_)
          refine Oyg (y := y_move) (h := ?_)
          refine Oyg (y := y_indexAddrS (hu := by exact Tryz.runUnderlying22) (hz := by exact Tryz.sizeOf3) (j := i) (hi := by first | rfl | omega) (hj' := by omega) (hj := by omega) (hr := by exact Nat.mul_one _)) (h := ?_)
          refine Oyg (y := (y_loadS (ha := by exact Tryz.isAgg3) (hv := (by rw [List.getElem?_map, hy]; rfl)))) (h := ?_)
          refine Oeg (e := e_call (by exact Tryz.call25) (t := has_spec false lad L.length lcap L (by omega) y)) (h := ?_)
          rintro _ -
          rw [decide_eq_true hyR.1]
          try dsimp only
          refine Oyg (y := y_not) (h := ?_)
          refine Oy (y := y_pick_false) (h := ?_)
          refine Oy (y := y_move) (h := ?_)
          refine Oyg (y := y_move) (h := ?_)
          refine Oyg (y := y_move) (h := ?_)
          refine Oyg (y := y_move) (h := ?_)
          refine Oyg (y := y_indexAddrS (hu := by exact Tryz.runUnderlying22) (hz := by exact Tryz.sizeOf3) (j := i) (hi := by first | rfl | omega) (hj' := by omega) (hj := by omega) (hr := by exact Nat.mul_one _)) (h := ?_)
          refine Oyg (y := (y_loadS (ha := by exact Tryz.isAgg3) (hv := (by rw [List.getElem?_map, hy]; rfl)))) (h := ?_)
          refine Oyg (y := y_move) (h := ?_)
          refine Oyg (y := y_move) (h := ?_)
          refine Oyg (y := y_move) (h := ?_)
          refine Oyg (y := y_indexAddrS (hu := by exact Tryz.runUnderlying22) (hz := by exact Tryz.sizeOf3) (j := i) (hi := by first | rfl | omega) (hj' := by omega) (hj := by omega) (hr := by exact Nat.mul_one _)) (h := ?_)
          refine Oyg (y := (y_loadS (ha := by exact Tryz.isAgg3) (hv := (by rw [List.getElem?_map, hy]; rfl)))) (h := ?_)
          refine Oeg (e := e_call (by exact Tryz.call16) (t := refFind_spec true xad X.length xcap X (by omega) y)) (h := ?_)
          rintro _ -
          try dsimp only
          refine Oeg (e := e_call (by exact Tryz.call16) (t := refFind_spec true yad Y.length ycap Y (by omega) y)) (h := ?_)
          rintro _ -
          try dsimp only
          refine Oyg (y := y_eql) (h := ?_)
          refine Oy (y := y_pick_false) (h := ?_)
          refine WO.done ?_
          refine Kcond (ht := fun hc142 => ?_) (hf := fun hc142 => ?_)
          ·
           have hc142 := of_decide_eq_true hc142
           exfalso
           exact hyR.2 hc142
          ·
           have hc142 := of_decide_eq_false hc142
           refine WK.skip ?_
           refine WK.region ?_
           refine Ly y_move ?_
           refine Ly y_move ?_
           refine Ly (y_indexAddrS (hu := by exact Tryz.runUnderlying22) (hz := by exact Tryz.sizeOf3) (j := i) (hi := by first | rfl | omega) (hj' := by omega) (hj := by omega) (hr := by exact Nat.mul_one _)) ?_
           refine Ly (y_loadS (ha := by exact Tryz.isAgg3) (hv := (by rw [List.getElem?_map, hy]; rfl))) ?_
           refine Ly y_assign ?_
           refine WL.done ?_
           refine WK.endBlock ?_
           refine WK.region ?_
           refine Ly y_move ?_
           refine Ly y_add ?_
           refine Ly y_assign ?_
           refine WL.done ?_
           exact Knext hN (i + 1, y) ⟨by dsimp only; omega, fun j z hz hj => incI_get hmv.inc (by dsimp only at hj; omega) hy hz⟩ (by dsimp only; omega)
        ·
         have hc110 := of_decide_eq_false hc110
         refine WK.exit ?_
         repeat (first | refine XQ.then_ ?_ | refine XQ.block (by rfl) ?_)
         refine XQ.here ?_
         refine WK.seq ?_
         refine WK.seq ?_
         refine WK.region ?_
         refine Ly y_assign ?_
         refine WL.done ?_
         refine WK.block ?_
         refine Kloop (ι := Nat × Nat) (fun x => x.1 ≤ L.length ∧ CntM X Y L x.1 x.2 ∧ x.2 ≤ x.1) (fun x => [(13, .slice xad X.length xcap), (14, .slice yad Y.length ycap), (15, .slice lad L.length lcap), (19, .slice rad R.length rcap), (20, .int .i64 0), (22, .int .i64 (x.2 : Int)), (24, .int .i64 (x.1 : Int))]) (fun _ => sl true 3 1 rad R.length rcap (R.map (Value.int .i64)) :: sl false 3 1 lad L.length lcap (L.map (Value.int .i64)) :: sl true 83 2 xad X.length xcap (homesC X) :: sl true 83 2 yad Y.length ycap (homesC Y) :: slr 1 ad len (l.map (Value.int .i64)) :: slr 1 ad2 len2 (m.map (Value.int .i64)) :: slr 1 ad3 len3 (acc.map (Value.int .i64)) :: F) (fun x => L.length - x.1) ((0, 0)) (⟨Nat.zero_le _, cntM_start, Nat.le_refl _⟩) (round := ?_)
         rintro ⟨i, many⟩ ⟨hi, hcnt, hmi⟩ N2 hN2
         dsimp only at hi hcnt hmi ⊢
         refine WK.seq ?_
         refine WK.seq ?_
         refine WK.region ?_
         refine Ly y_move ?_
         refine Ly y_move ?_
         refine Ly (y_len (hu := by exact Tryz.runUnderlying22)) ?_
         refine Ly y_lss ?_
         refine WL.done ?_
         refine Kcond (ht := fun hc150 => ?_) (hf := fun hc150 => ?_)
         ·
          have hc150 := of_decide_eq_true hc150
          obtain ⟨x, hx⟩ : ∃ x, L[i]? = some x := ⟨_, List.getElem?_eq_getElem (by omega)⟩
          refine WK.know (fun w s => Sat.slLen (s.sel1 (A := sl false 3 1 lad L.length lcap (L.map (Value.int .i64))) (by repeat (first | exact .here | apply Sel.there)))) (fun hkn => ?_)
          obtain ⟨-, hcap, -⟩ := hkn
          refine WK.sat (fun w s => Sat.slHead (Sat.dup (s.sel (As := [sl false 3 1 lad L.length lcap (L.map (Value.int .i64))]) (by repeat (first | exact SelL.nil | exact SelL.self | apply SelL.cons | exact Sel.here | apply Sel.there | apply SelL.skip))) (dup_sl _ _ _ _ _ _)) i (by omega)) ?_
          rw [Nat.mul_one, ← List.map_take]
          refine WK.skip ?_
          refine WK.seq ?_
          refine WK.block ?_
          refine WK.seq ?_
          by_cases hfi : x ∈ L.take i
          ·
           refine Kdr (l := [(0, 0), (1, 0), (2, 0), (3, 0), (4, 0), (5, 0), (6, 0), (7, 1), (8, 0), (9, 0)]) (Cs := [sl false 3 1 lad L.length lcap (L.map (Value.int .i64)), sl false 3 1 lad i lcap ((L.take i).map (Value.int .i64))]) (h := ?_)
           refine Oy (y := y_move) (h := ?_)
           refine Oy (y := y_move) (h := ?_)
           refine Oy (y := y_slice_hi (hu := by exact Tryz.runUnderlying22) (hs := by exact Tryz.sizeOf3) (h := i) (hi := by first | rfl | omega) (hh := by omega)) (h := ?_)
           refine Oy (y := y_move) (h := ?_)
           refine Oy (y := y_move) (h := ?_)
           refine Oy (y := y_indexAddrS (hu := by exact Tryz.runUnderlying22) (hz := by exact Tryz.sizeOf3) (j := i) (hi := by first | rfl | omega) (hj' := by omega) (hj := by omega) (hr := by exact Nat.mul_one _)) (h := ?_)
           refine Oy (y := (y_loadS (ha := by exact Tryz.isAgg3) (hv := (by rw [List.getElem?_map, hx]; rfl)))) (h := ?_)
           refine Oe (e := e_call (by exact Tryz.call25) (t := has_spec false lad i lcap (L.take i) (by omega) x)) (h := ?_)
           rintro _ -
           rw [decide_eq_true hfi]
           try dsimp only
           refine Oy (y := y_not) (h := ?_)
           refine Oy (y := y_assign) (h := ?_)
           refine WO.done ?_
           refine WK.seq ?_
           refine Kdr (l := [(0, 0), (1, 0), (2, 0), (3, 0), (4, 0), (5, 0), (6, 0), (8, 0), (9, 0), (10, 0), (11, 0), (12, 0), (7, 1), (13, 1), (14, 0), (15, 0)]) (Cs := [sl false 3 1 lad L.length lcap (L.map (Value.int .i64))]) (h := ?_)
           refine Oy (y := y_move) (h := ?_)
           refine Oy (y := y_move) (h := ?_)
           refine Oz (h := ?_)
           refine Oz (h := ?_)
           refine Oz (h := ?_)
           refine Oz (h := ?_)
           refine Oz (h := ?_)
           refine Oz (h := ?_)
           refine Oz (h := ?_)
           refine Oz (h := ?_)
           refine Oz (h := ?_)
           refine Oz (h := ?_)
           refine OzE (h := ?_)
           refine OzE (h := ?_)
           refine Oz (h := ?_)
           refine Oy (y := y_pick_false) (h := ?_)
           refine WO.done ?_
           refine Kcond (ht := fun h => by cases h) (hf := fun _ => ?_)
           refine WK.skip ?_
           refine WK.endBlock ?_
           refine WK.region ?_
           refine Ly y_move ?_
           refine Ly y_add ?_
           refine Ly y_assign ?_
           refine WL.done ?_
           exact Knext hN2 (i + 1, many) ⟨by dsimp only; omega, cntM_same hcnt hx (.inl hfi), by dsimp only; omega⟩ (by dsimp only; omega)
          ·
           refine Kdr (l := [(0, 0), (1, 0), (2, 0), (3, 0), (4, 0), (5, 0), (6, 0), (7, 1), (8, 0), (9, 0)]) (Cs := [sl false 3 1 lad L.length lcap (L.map (Value.int .i64)), sl false 3 1 lad i lcap ((L.take i).map (Value.int .i64))]) (h := ?_)
           refine Oy (y := y_move) (h := ?_)
           refine Oy (y := y_move) (h := ?_)
           refine Oy (y := y_slice_hi (hu := by exact Tryz.runUnderlying22) (hs := by exact Tryz.sizeOf3) (h := i) (hi := by first | rfl | omega) (hh := by omega)) (h := ?_)
           refine Oy (y := y_move) (h := ?_)
           refine Oy (y := y_move) (h := ?_)
           refine Oy (y := y_indexAddrS (hu := by exact Tryz.runUnderlying22) (hz := by exact Tryz.sizeOf3) (j := i) (hi := by first | rfl | omega) (hj' := by omega) (hj := by omega) (hr := by exact Nat.mul_one _)) (h := ?_)
           refine Oy (y := (y_loadS (ha := by exact Tryz.isAgg3) (hv := (by rw [List.getElem?_map, hx]; rfl)))) (h := ?_)
           refine Oe (e := e_call (by exact Tryz.call25) (t := has_spec false lad i lcap (L.take i) (by omega) x)) (h := ?_)
           rintro _ -
           rw [decide_eq_false hfi]
           try dsimp only
           refine Oy (y := y_not) (h := ?_)
           refine Oy (y := y_assign) (h := ?_)
           refine WO.done ?_
           refine WK.seq ?_
           refine Kdr (l := [(0, 0), (1, 0), (2, 0), (3, 0), (4, 0), (5, 0), (6, 0), (8, 0), (9, 0), (10, 0), (11, 0), (12, 0), (7, 1), (13, 1), (14, 0), (15, 0)]) (Cs := [sl false 3 1 lad L.length lcap (L.map (Value.int .i64))]) (h := ?_)
           refine Oy (y := y_move) (h := ?_)
           refine Oy (y := y_move) (h := ?_)
           refine Oyg (y := y_move) (h := ?_)
           refine Oyg (y := y_move) (h := ?_)
           refine Oyg (y := y_move) (h := ?_)
           refine Oyg (y := y_indexAddrS (hu := by exact Tryz.runUnderlying22) (hz := by exact Tryz.sizeOf3) (j := i) (hi := by first | rfl | omega) (hj' := by omega) (hj := by omega) (hr := by exact Nat.mul_one _)) (h := ?_)
           refine Oyg (y := (y_loadS (ha := by exact Tryz.isAgg3) (hv := (by rw [List.getElem?_map, hx]; rfl)))) (h := ?_)
           refine Oyg (y := y_move) (h := ?_)
           refine Oyg (y := y_move) (h := ?_)
           refine Oyg (y := y_move) (h := ?_)
           refine Oyg (y := y_indexAddrS (hu := by exact Tryz.runUnderlying22) (hz := by exact Tryz.sizeOf3) (j := i) (hi := by first | rfl | omega) (hj' := by omega) (hj := by omega) (hr := by exact Nat.mul_one _)) (h := ?_)
           refine Oyg (y := (y_loadS (ha := by exact Tryz.isAgg3) (hv := (by rw [List.getElem?_map, hx]; rfl)))) (h := ?_)
           refine Oeg (e := e_call (by exact Tryz.call16) (t := refFind_spec true xad X.length xcap X (by omega) x)) (h := ?_)
           rintro _ -
           try dsimp only
           refine Oeg (e := e_call (by exact Tryz.call16) (t := refFind_spec true yad Y.length ycap Y (by omega) x)) (h := ?_)
           rintro _ -
           try dsimp only
           refine Oyg (y := y_neq) (h := ?_)
           refine Oy (y := y_pick_true) (h := ?_)
           refine WO.done ?_
           refine Kcond (ht := fun hc177 => ?_) (hf := fun hc177 => ?_)
           ·
            have hc177 := of_decide_eq_true hc177
            refine WK.region ?_
            refine Ly y_move ?_
            refine Ly y_add ?_
            refine Ly y_assign ?_
            refine WL.done ?_
            refine WK.endBlock ?_
            refine WK.region ?_
            refine Ly y_move ?_
            refine Ly y_add ?_
            refine Ly y_assign ?_
            refine WL.done ?_
            exact Knext hN2 (i + 1, many + 1) ⟨by dsimp only; omega, cntM_more hcnt hx hfi hc177, by dsimp only; omega⟩ (by dsimp only; omega)
           ·
            have hc177 := of_decide_eq_false hc177
            refine WK.skip ?_
            refine WK.endBlock ?_
            refine WK.region ?_
            refine Ly y_move ?_
            refine Ly y_add ?_
            refine Ly y_assign ?_
            refine WL.done ?_
            exact Knext hN2 (i + 1, many) ⟨by dsimp only; omega, cntM_same hcnt hx (.inr (Decidable.of_not_not hc177)), by dsimp only; omega⟩ (by dsimp only; omega)
         ·
          have hc150 := of_decide_eq_false hc150
          obtain rfl : i = L.length := by omega
          obtain rfl : many = R.length := cntM_done hcnt hmv
          have okXX : MovingOK X X L := ⟨hok.1, hok.1, hok.2.2⟩
          refine WK.exit ?_
          repeat (first | refine XQ.then_ ?_ | refine XQ.block (by rfl) ?_)
          refine XQ.here ?_
          refine WK.seq ?_
          refine WK.region ?_
          refine Ly y_move ?_
          refine Le (e_call (by exact Tryz.call13) (t := homes_spec true xad X.length xcap X (by omega))) ?_
          rintro ⟨m3, c3⟩ -
          try dsimp only
          refine Ly y_move ?_
          refine Le (e_call (by exact Tryz.call13) (t := homes_spec true xad X.length xcap X (by omega))) ?_
          rintro ⟨m4, c4⟩ -
          try dsimp only
          refine Ly y_move ?_
          refine Le (e_call (by exact Tryz.call24) (t := moving_spec 21 (sortI_all 21 (by decide)) true true m3 m4 X.length X.length c3 c4 X X (by omega) (by omega) false lad L.length lcap L (by omega) (by omega))) ?_
          rintro x186 hx186
          obtain ⟨⟨R2, r2ad, r2cap⟩, rfl⟩ : ∃ y, x186 = some y := by
            cases x186 with
            | none => exact absurd okXX hx186
            | some y => exact ⟨y, rfl⟩
          dsimp only at hx186 ⊢
          obtain rfl : R2 = [] := movesM_self hx186.2
          try dsimp only
          refine Ly y_move ?_
          refine Ly y_extract ?_
          refine Ly y_extract ?_
          refine Ly y_assign ?_
          refine Ly y_assign ?_
          refine WL.done ?_
          refine WK.seq ?_
          refine WK.region ?_
          refine Ly y_move ?_
          refine Ly y_eql ?_
          refine Ly y_move ?_
          refine Lyg y_move ?_
          refine Lyg y_move ?_
          refine Lyg (y_len (hu := by exact Tryz.runUnderlying22)) ?_
          refine Lyg y_eql ?_
          refine Ly y_pick_true ?_
          refine Ly y_move ?_
          refine WL.split (d := 197) (by rfl) (fun hc197 => ?_) (fun hc197 => ?_)
          ·
           have hc197 := of_decide_eq_true hc197
           refine Lyg y_move ?_
           refine Lyg y_eql ?_
           refine Ly y_pick_true ?_
           refine Ly y_move ?_
           refine Lyg y_move ?_
           refine Lyg (y_len (hu := by exact Tryz.runUnderlying22)) ?_
           refine Lyg y_eql ?_
           refine Ly y_pick_true ?_
           refine Ly y_move ?_
           refine Leg (e_call (by exact Tryz.call17) (t := lives_spec)) ?_
           rintro _ -
           try dsimp only
           refine Ly y_pick_true ?_
           refine Ly y_assign ?_
           refine WL.done ?_
           refine WK.ret ?_
           repeat (first | refine RQ.block ?_ | refine RQ.then_ ?_)
           refine RQ.body (results1 (by rfl) (by rfl)) (fun w s => ?_)
           exact ⟨(), trivial, rfl, s.toCs (by repeat (first | exact SelL.nil | exact SelL.self | apply SelL.cons | exact Sel.here | apply Sel.there | apply SelL.skip))⟩
          ·
           have hc197 := of_decide_eq_false hc197
           exfalso
           exact hc197 rfl
       ·
        obtain rfl : b17 = false := Bool.eq_false_iff.2 (fun h => hok (hb17.1 h))
        refine WK.region ?_
        refine Ly y_move ?_
        refine Le (e_call (by exact Tryz.call13) (t := homes_spec true xad X.length xcap X (by omega))) ?_
        rintro ⟨m1, c1⟩ -
        try dsimp only
        refine Ly y_move ?_
        refine Le (e_call (by exact Tryz.call13) (t := homes_spec true yad Y.length ycap Y (by omega))) ?_
        rintro ⟨m2, c2⟩ -
        try dsimp only
        refine Ly y_move ?_
        refine Le (e_call (by exact Tryz.call24) (t := moving_spec 21 (sortI_all 21 (by decide)) true true m1 m2 X.length Y.length c1 c2 X Y (by omega) (by omega) false lad L.length lcap L (by omega) (by omega))) ?_
        rintro x92 hx92
        obtain rfl : x92 = none := by
          cases x92 with
          | none => rfl
          | some y => exact absurd hx92.1 hok
        dsimp only
        try dsimp only
        refine Ly y_move ?_
        refine Ly y_extract ?_
        refine Ly y_extract ?_
        refine Ly y_assign ?_
        refine Ly y_assign ?_
        refine WL.done ?_
        refine WK.seq ?_
        refine WK.seq ?_
        refine WK.region ?_
        refine Ly y_move ?_
        refine Ly y_not ?_
        refine WL.done ?_
        refine Kcond (ht := fun _ => ?_) (hf := fun h => by cases h)
        refine WK.seq ?_
        refine WK.region ?_
        refine Ly y_move ?_
        refine Ly y_eql ?_
        refine Ly y_move ?_
        refine Lyg y_move ?_
        refine Lyg (y_len (hu := by exact Tryz.runUnderlying22)) ?_
        refine Lyg y_eql ?_
        refine Ly y_pick_true ?_
        refine Ly y_move ?_
        refine Leg (e_call (by exact Tryz.call17) (t := lives_spec)) ?_
        rintro _ -
        try dsimp only
        refine Ly y_pick_true ?_
        refine Ly y_assign ?_
        refine WL.done ?_
        refine WK.ret ?_
        repeat (first | refine RQ.block ?_ | refine RQ.then_ ?_)
        refine RQ.body (results1 (by rfl) (by rfl)) (fun w s => ?_)
        exact ⟨(), trivial, rfl, s.toCs (by repeat (first | exact SelL.nil | exact SelL.self | apply SelL.cons | exact Sel.here | apply Sel.there | apply SelL.skip))⟩
      ·
       intro JP17
       refine WK.sat (fun w s => Sat.slFreeze (s.sel (As := [sl true 3 1 lad L.length lcap (L.map (Value.int .i64))]) (by repeat (first | exact SelL.nil | exact SelL.self | apply SelL.cons | exact Sel.here | apply Sel.there | apply SelL.skip)))) ?_
       refine WK.region ?_
       refine Ly y_move ?_
       refine Ly y_move ?_
       refine WL.split (d := 78) (by rfl) (fun hc78 => ?_) (fun hc78 => ?_)
       ·
        have hall := hgd.1 hc78
        refine Lyg y_move ?_
        refine Leg (e_call (by exact Tryz.call14) (t := refValid_spec 12 true xad X.length xcap X (by omega))) ?_
        rintro _ -
        try dsimp only
        refine Ly y_pick_true ?_
        refine Ly y_move ?_
        refine WL.split (d := 82) (by rfl) (fun hc82 => ?_) (fun hc82 => ?_)
        ·
         have hc82 : VH 12 X := of_decide_eq_true hc82
         refine Lyg y_move ?_
         refine Leg (e_call (by exact Tryz.call14) (t := refValid_spec 12 true yad Y.length ycap Y (by omega))) ?_
         rintro _ -
         try dsimp only
         refine Ly y_pick_true ?_
         refine Ly y_assign ?_
         refine WL.done ?_
         refine Kgoto JP17 _ ?_
         exact ⟨fun h => ⟨hc82, of_decide_eq_true h, hall⟩, fun h => decide_eq_true h.2.1⟩
        ·
         have hc82 : ¬ VH 12 X := of_decide_eq_false hc82
         refine Lz ?_
         refine Lz ?_
         refine Ly y_pick_false ?_
         refine Ly y_assign ?_
         refine WL.done ?_
         refine Kgoto JP17 false ?_
         exact ⟨fun h => (by cases h), fun h => absurd h.1 hc82⟩
       ·
        have hall : ¬ (∀ a ∈ L, 1 ≤ a ∧ a ≤ 1073741824) := mt hgd.2 (by rw [hc78]; simp)
        refine Lz ?_
        refine Lz ?_
        refine Ly y_pick_false ?_
        refine Ly y_move ?_
        refine Lz ?_
        refine Lz ?_
        refine Ly y_pick_false ?_
        refine Ly y_assign ?_
        refine WL.done ?_
        refine Kgoto JP17 false ?_
        exact ⟨fun h => (by cases h), fun h => absurd h.2.2 hall⟩
     ·
      intro J66
      refine Kcond (ht := fun hc66 => ?_) (hf := fun hc66 => ?_)
      ·
       have hc66 := of_decide_eq_true hc66
       refine WK.seq ?_
       refine WK.region ?_
       refine Ly y_move ?_
       refine Ly y_move ?_
       refine Le (e_mkSlice1 (hu := by exact Tryz.runUnderlying22) (hk := by exact Tryz.sizeOf3) (hz := by exact Tryz.zeroValue3) (hk0 := by rfl) (hb := by decide) (h1 := by rfl)) ?_
       rintro b69 -
       try dsimp only
       refine Le (e_append (et := elem22) (htx := by exact Tryz.underlying22) (hb := by omega) (hm := by omega)) ?_
       rintro ⟨ad70, cap70⟩ -
       try dsimp only
       refine Ly y_assign ?_
       refine WL.done ?_
       refine WK.region ?_
       refine Ly y_move ?_
       refine Ly y_geq ?_
       refine Ly y_move ?_
       refine WL.split (d := 73) (by rfl) (fun hc73 => ?_) (fun hc73 => ?_)
       ·
        have hc73 := of_decide_eq_true hc73
        refine Lyg y_move ?_
        refine Lyg y_leq ?_
        refine Ly y_pick_true ?_
        refine Ly y_assign ?_
        refine WL.done ?_
        refine Kgoto J66 (L ++ [n], ad70, cap70, decide (n ≤ 1073741824)) ⟨by simp; omega, ?_⟩ (hK := (by refine KK.cons rfl (KK.cons rfl (KK.cons (by simp only [List.length_append, List.length_singleton]; rfl) (KK.cons rfl KK.nil))))) (hP := (by dsimp only; rw [List.map_append, List.length_append]; exact (by repeat (first | exact SelL.nil | exact SelL.self | apply SelL.cons | exact Sel.here | apply Sel.there | apply SelL.skip))))
        dsimp only
        constructor
        · intro h a ha
          rcases List.mem_append.1 ha with ha | ha
          · have := hL25 a ha
            omega
          · obtain rfl : a = n := by simpa using ha
            exact ⟨hc73, of_decide_eq_true h⟩
        · intro h
          have := h n (by simp)
          exact decide_eq_true this.2
       ·
        have hc73 := of_decide_eq_false hc73
        refine Lz ?_
        refine Lz ?_
        refine Ly y_pick_false ?_
        refine Ly y_assign ?_
        refine WL.done ?_
        refine Kgoto J66 (L ++ [n], ad70, cap70, false) ⟨by simp; omega, ?_⟩ (hK := (by refine KK.cons rfl (KK.cons rfl (KK.cons (by simp only [List.length_append, List.length_singleton]; rfl) (KK.cons rfl KK.nil))))) (hP := (by dsimp only; rw [List.map_append, List.length_append]; exact (by repeat (first | exact SelL.nil | exact SelL.self | apply SelL.cons | exact Sel.here | apply Sel.there | apply SelL.skip))))
        dsimp only
        constructor
        · intro h a ha
          rcases List.mem_append.1 ha with ha | ha
          · have := hL25 a ha
            omega
          · obtain rfl : a = n := by simpa using ha
            cases h
        · intro h
          have := h n (by simp)
          omega
      ·
       have hc66 := of_decide_eq_false hc66
       refine WK.skip ?_
       exact Kgoto J66 (L, lad, lcap, true) ⟨by dsimp only; omega, ⟨fun _ a ha => by have := hL25 a ha; omega, fun _ => rfl⟩⟩
    ·
     intro J60
     refine Kcond (ht := fun hc60 => ?_) (hf := fun hc60 => ?_)
     ·
      have hc60 := of_decide_eq_true hc60
      refine WK.region ?_
      refine Ly y_move ?_
      refine Ly y_move ?_
      refine Ly y_move ?_
      refine Le (e_call (by exact Tryz.call11) (t := spoilt_spec true yad H.length ycap H (by omega) at_ n h_at_)) ?_
      rintro ⟨ad64, cap64⟩ -
      dsimp only
      have hs64 := spoiltM_len H at_ n
      try dsimp only
      refine Ly y_assign ?_
      refine WL.done ?_
      exact Kgoto J60 (spoiltM H at_ n, ad64, cap64) (by dsimp only; omega)
     ·
      have hc60 := of_decide_eq_false hc60
      refine WK.skip ?_
      exact Kgoto J60 (H, yad, ycap) hHl
   ·
    intro J54
    refine Kcond (ht := fun hc54 => ?_) (hf := fun hc54 => ?_)
    ·
     have hc54 := of_decide_eq_true hc54
     refine WK.region ?_
     refine Ly y_move ?_
     refine Ly y_move ?_
     refine Ly y_move ?_
     refine Le (e_call (by exact Tryz.call11) (t := spoilt_spec true xad G.length xcap G (by omega) at_ n h_at_)) ?_
     rintro ⟨ad58, cap58⟩ -
     dsimp only
     have hs58 := spoiltM_len G at_ n
     try dsimp only
     refine Ly y_assign ?_
     refine WL.done ?_
     exact Kgoto J54 (spoiltM G at_ n, ad58, cap58) (by dsimp only; omega)
    ·
     have hc54 := of_decide_eq_false hc54
     refine WK.skip ?_
     exact Kgoto J54 (G, xad, xcap) hGl
 ·
  intro JP39
  refine WK.region ?_
  refine Ly y_move ?_
  refine Ly y_move ?_
  refine Ly (y_len (hu := by exact Tryz.runUnderlying22)) ?_
  refine Ly y_lss ?_
  refine Ly y_move ?_
  refine WL.split (d := 36) (by rfl) (fun hc36 => ?_) (fun hc36 => ?_)
  ·
   have hc36 := of_decide_eq_true hc36
   refine Lyg y_move ?_
   refine Lyg y_lss ?_
   refine Ly y_pick_true ?_
   refine WL.done ?_
   refine Kgoto JP39 _ ?_
   first | (simp only [true_iff]; omega) | (simp only [Bool.false_eq_true, false_iff]; omega) | (simp only [decide_eq_true_eq]; omega) | (simp; omega) | (simp at *; omega)
  ·
   have hc36 := of_decide_eq_false hc36
   refine Lz ?_
   refine Lz ?_
   refine Ly y_pick_false ?_
   refine WL.done ?_
   refine Kgoto JP39 false ?_
   first | (simp only [true_iff]; omega) | (simp only [Bool.false_eq_true, false_iff]; omega) | (simp only [decide_eq_true_eq]; omega) | (simp; omega) | (simp at *; omega)
end Go.Proofs.YtkakfmcjiabjjaaGreatDoor
