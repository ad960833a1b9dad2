import Derived.Test.YtkakfmcjiabjjaaGreatDoorSepY
import Derived.Test.YtkakfmcjiabjjaaGreatDoorProg
namespace Go.Proofs.YtkakfmcjiabjjaaGreatDoor
set_option linter.unusedVariables false
set_option linter.unusedSimpArgs false
set_option linter.unusedSectionVars false
set_option linter.unnecessarySimpa false
open Go Go.Sep
attribute [local irreducible] row sl mapO held exL allR byt mapI slr
theorem indexByte_mem : ∀ {l : List UInt8} {c : UInt8}, 0 ≤ Lib.indexByte l c ↔ c ∈ l
  | [], c => by simp [Lib.indexByte]
  | b :: l, c => by
    have ih := indexByte_mem (l := l) (c := c)
    have hg := Lib.indexByte_ge l c
    unfold Lib.indexByte
    by_cases h : b = c
    · subst h; simp
    · have h2 : (b == c) = false := by simpa using h
      have h3 : ¬ c = b := fun e => h e.symm
      simp only [h2, List.mem_cons, h3, false_or]
      rw [← ih]
      by_cases k : Lib.indexByte l c = -1
      · simp [k]
      · have : (Lib.indexByte l c == -1) = false := by simpa using k
        simp only [this]
        simp
        omega
theorem cells_from : ∀ (L : List Value) (pre : List Value), Cells (pre ++ L) pre.length L.length L
  | [], pre => .nil
  | v :: L, pre => by
    refine .cons ?_ ?_
    · rw [List.getElem?_append_right (Nat.le_refl _)]; simp
    · have := cells_from L (pre ++ [v])
      simpa using this
theorem cells_all {L : List Value} {n : Nat} (h : L.length = n) : Cells L 0 n L := by
  subst h
  exact cells_from L []
theorem setAts_all {L Z : List Value} (h : L.length = Z.length) : SetAts L Z 0 L := by
  have := SetAts.mk (vs := L) (l := Z) (k := 0) (by omega)
  rw [List.take_zero, List.nil_append, Nat.zero_add, List.drop_eq_nil_of_le (by omega), List.append_nil] at this
  exact this
/-- The bytes of cs as a table of 256 truths. -/
def setC (cs : List UInt8) : List Value := (List.range 256).map fun i => .bool (decide (UInt8.ofNat i ∈ cs))
theorem setC_len (cs : List UInt8) : (setC cs).length = 256 := by simp [setC]
theorem setC_get (cs : List UInt8) (c : UInt8) : (setC cs)[c.toNat]? = some (.bool (decide (c ∈ cs))) := by
  have := c.toNat_lt
  rw [setC, List.getElem?_map, List.getElem?_range (by omega)]
  simp
theorem setC_set (cs : List UInt8) (c : UInt8) : (setC cs).set c.toNat (.bool true) = setC (cs ++ [c]) := by
  have hc := c.toNat_lt
  refine List.ext_getElem? fun i => ?_
  rw [List.getElem?_set, setC_len]
  by_cases h : c.toNat = i
  · subst h
    rw [if_pos rfl, if_pos (by omega), setC_get]
    simp
  · rw [if_neg h]
    rcases Nat.lt_or_ge i 256 with k | k
    · have e := setC_get cs (UInt8.ofNat i)
      have e2 := setC_get (cs ++ [c]) (UInt8.ofNat i)
      have hi : (UInt8.ofNat i).toNat = i := by rw [UInt8.toNat_ofNat']; exact Nat.mod_eq_of_lt k
      rw [hi] at e e2
      rw [e, e2]
      have : UInt8.ofNat i ≠ c := fun x => h (by rw [← x, hi])
      simp [this]
    · rw [List.getElem?_eq_none (by rw [setC_len]; omega), List.getElem?_eq_none (by rw [setC_len]; omega)]
theorem zero305 : (Tryz.zeroCells305) = (setC []).toArray := by kernel_rfl
set_option maxRecDepth 20000 in
set_option maxHeartbeats 1000000 in
theorem indexByteL_spec (cs : List UInt8) (c : UInt8) :
  Triple Tryz.prog 215 #[.string ⟨cs.toArray⟩, .int .u8 (c.toNat : Int)] [] (Unit) (fun _ => True) (fun _ => .int .i64 (Lib.indexByte cs c)) (fun _ => []) := by
 refine Triple.of_body (args := [.string ⟨cs.toArray⟩, .int .u8 (c.toNat : Int)]) Tryz.func215 rfl Tryz.ntmps215 (by simp) (fun g F => ?_)
 dsimp only [numb, List.cons_append, List.nil_append]
 refine WK.seq ?_
 refine WK.region ?_
 refine Ly y_assign ?_
 refine WL.done ?_
 refine WK.seq ?_
 refine WK.region ?_
 refine Ly y_move ?_
 refine Ly y_move ?_
 refine Ly (yld_callX (by repeat (first | exact Evs.nil | apply Evs.cons | rfl)) (run_indexByteS Tryz.func231 (by kernel_rfl) (by kernel_rfl) (by kernel_rfl) (by kernel_rfl) cs c)) ?_
 refine Ly y_assign ?_
 refine WL.done ?_
 refine WK.ret ?_
 repeat (first | refine RQ.block ?_ | refine RQ.then_ ?_)
 refine RQ.body (results1 (by rfl) (by rfl)) (fun w s => ?_)
 exact ⟨(), trivial, rfl, s⟩
set_option maxRecDepth 20000 in
set_option maxHeartbeats 1000000 in
theorem indexByte_spec (cs : List UInt8) (c : UInt8) :
  Triple Tryz.prog 195 #[.string ⟨cs.toArray⟩, .int .u8 (c.toNat : Int)] [] (Unit) (fun _ => True) (fun _ => .int .i64 (Lib.indexByte cs c)) (fun _ => []) := by
 refine Triple.of_body (args := [.string ⟨cs.toArray⟩, .int .u8 (c.toNat : Int)]) Tryz.func195 rfl Tryz.ntmps195 (by simp) (fun g F => ?_)
 dsimp only [numb, List.cons_append, List.nil_append]
 refine WK.seq ?_
 refine WK.region ?_
 refine Ly y_assign ?_
 refine WL.done ?_
 refine WK.seq ?_
 refine WK.region ?_
 refine Ly y_move ?_
 refine Ly y_move ?_
 refine Le (e_call (by exact Tryz.call215) (t := indexByteL_spec cs c)) ?_
 rintro _ -
 try dsimp only
 refine Ly y_assign ?_
 refine WL.done ?_
 refine WK.ret ?_
 repeat (first | refine RQ.block ?_ | refine RQ.then_ ?_)
 refine RQ.body (results1 (by rfl) (by rfl)) (fun w s => ?_)
 exact ⟨(), trivial, rfl, s⟩
set_option maxRecDepth 20000 in
set_option maxHeartbeats 1000000 in
theorem in_spec (cs set : List UInt8) :
  Triple Tryz.prog 179 #[.string ⟨cs.toArray⟩, .string ⟨set.toArray⟩] [] (Unit) (fun _ => True) (fun _ => .bool (match cs with | [] => false | c :: _ => decide (c ∈ set))) (fun _ => []) := by
 refine Triple.of_body (args := [.string ⟨cs.toArray⟩, .string ⟨set.toArray⟩]) Tryz.func179 rfl Tryz.ntmps179 (by simp) (fun g F => ?_)
 dsimp only [numb, List.cons_append, List.nil_append]
 refine WK.seq ?_
 refine WK.region ?_
 refine Ly y_assign ?_
 refine WL.done ?_
 refine WK.seq ?_
 rcases cs with _ | ⟨c, cs⟩
 ·
  refine WK.region ?_
  refine Ly y_move ?_
  refine Ly y_strNeq ?_
  refine Ly y_move ?_
  refine WL.split (d := 7) (by rfl) (fun hc7 => ?_) (fun hc7 => ?_)
  ·
   have hc7 := of_decide_eq_true hc7
   exact (hc7 rfl).elim
  ·
   have hc7 := of_decide_eq_false hc7
   refine Lz ?_
   refine Lz ?_
   refine Lz ?_
   refine Lz ?_
   refine Lz ?_
   refine Ly y_pick_false ?_
   refine Ly y_assign ?_
   refine WL.done ?_
   refine WK.ret ?_
   repeat (first | refine RQ.block ?_ | refine RQ.then_ ?_)
   refine RQ.body (results1 (by rfl) (by rfl)) (fun w s => ?_)
   exact ⟨(), trivial, rfl, s⟩
 ·
  refine WK.region ?_
  refine Ly y_move ?_
  refine Ly y_strNeq ?_
  refine Ly y_move ?_
  refine WL.split (d := 7) (by rfl) (fun hc7 => ?_) (fun hc7 => ?_)
  ·
   have hc7 := of_decide_eq_true hc7
   refine Lyg y_move ?_
   refine Lyg y_move ?_
   refine Lyg (y_indexStr (hu := by exact Tryz.runUnderlying9) (k := 0) (hc := by rfl)) ?_
   refine Leg (e_call (by exact Tryz.call195) (t := indexByte_spec set c)) ?_
   rintro _ -
   try dsimp only
   refine Lyg y_geq ?_
   refine Ly y_pick_true ?_
   refine Ly y_assign ?_
   refine WL.done ?_
   refine WK.ret ?_
   repeat (first | refine RQ.block ?_ | refine RQ.then_ ?_)
   refine RQ.body (results1 (by rfl) (by rfl)) (fun w s => ?_)
   refine ⟨(), trivial, ?_, s⟩
   show Ending.returned (Value.bool (decide (0 ≤ Lib.indexByte set c))) = Ending.returned (Value.bool (decide (c ∈ set)))
   rw [decide_eq_decide.2 indexByte_mem]
  ·
   have hc7 := of_decide_eq_false hc7
   exact (hc7 (by simp)).elim
set_option maxRecDepth 20000 in
set_option maxHeartbeats 1000000 in
theorem contains_spec (q : Nat) (p : Bool) (cs : List UInt8) (c : UInt8) :
  Triple Tryz.prog 232 #[.pointer (some ⟨q, 0, none⟩), .int .u8 (c.toNat : Int)] [row p q 305 (setC cs)] (Unit) (fun _ => True) (fun _ => .bool (decide (c ∈ cs))) (fun _ => [row p q 305 (setC cs)]) := by
 refine Triple.of_body (args := [.pointer (some ⟨q, 0, none⟩), .int .u8 (c.toNat : Int)]) Tryz.func232 rfl Tryz.ntmps232 (by simp) (fun g F => ?_)
 dsimp only [numb, List.cons_append, List.nil_append]
 have hc := c.toNat_lt
 refine WK.seq ?_
 refine WK.region ?_
 refine Ly y_assign ?_
 refine WL.done ?_
 refine WK.seq ?_
 refine WK.region ?_
 refine Ly y_move ?_
 refine Ly y_move ?_
 refine Ly y_nilCheck ?_
 refine Ly (y_indexAddrA (hu := by exact Tryz.runUnderlying305) (hs := by exact Tryz.sizeOf4) (k := c.toNat) (hi := by first | rfl | omega) (hl := by first | decide | omega)) ?_
 refine Ly (y_load (ha := Tryz.isAgg4) (hv := by rw [show 0 + c.toNat * 1 = c.toNat from by omega]; exact setC_get cs c)) ?_
 refine Ly y_assign ?_
 refine WL.done ?_
 refine WK.ret ?_
 repeat (first | refine RQ.block ?_ | refine RQ.then_ ?_)
 refine RQ.body (results1 (by rfl) (by rfl)) (fun w s => ?_)
 exact ⟨(), trivial, rfl, s⟩
set_option maxRecDepth 20000 in
set_option maxHeartbeats 1000000 in
theorem trimA_spec (q : Nat) (p : Bool) (cs set : List UInt8) (hl : cs.length ≤ 1000000) :
  Triple Tryz.prog 218 #[.string ⟨cs.toArray⟩, .pointer (some ⟨q, 0, none⟩)] [row p q 305 (setC set)] (Unit) (fun _ => True) (fun _ => .string ⟨(cs.dropWhile fun c => decide (c ∈ set)).toArray⟩) (fun _ => [row p q 305 (setC set)]) := by
 refine Triple.of_body (args := [.string ⟨cs.toArray⟩, .pointer (some ⟨q, 0, none⟩)]) Tryz.func218 rfl Tryz.ntmps218 (by simp) (fun g F => ?_)
 dsimp only [numb, List.cons_append, List.nil_append]
 refine WK.seq ?_
 refine WK.region ?_
 refine Ly y_assign ?_
 refine WL.done ?_
 refine WK.seq ?_
 refine WK.block ?_
 refine Kloop (ι := List UInt8) (fun r => r.length ≤ cs.length ∧ (cs.dropWhile fun c => decide (c ∈ set)) = r.dropWhile fun c => decide (c ∈ set)) (fun r => [(0, .string ⟨r.toArray⟩), (1, .pointer (some ⟨q, 0, none⟩))]) (fun _ => row p q 305 (setC set) :: F) (fun r => r.length) (cs) (⟨Nat.le_refl _, rfl⟩) (round := ?_)
 rintro r ⟨hr, hd⟩ N hN
 refine WK.seq ?_
 refine WK.seq ?_
 rcases r with _ | ⟨c, r⟩
 ·
  refine WK.region ?_
  refine Ly y_move ?_
  refine Ly (y_lenS (hu := by exact Tryz.runUnderlying9)) ?_
  refine Ly y_gtr ?_
  refine WL.done ?_
  refine Kcond (ht := fun hc7 => ?_) (hf := fun hc7 => ?_)
  ·
   have hc7 := of_decide_eq_true hc7
   simp [ByteArray.size] at hc7
  ·
   have hc7 := of_decide_eq_false hc7
   refine WK.exit ?_
   repeat (first | refine XQ.then_ ?_ | refine XQ.block (by rfl) ?_)
   refine XQ.here ?_
   refine WK.seq ?_
   refine WK.region ?_
   refine Ly y_move ?_
   refine Ly y_assign ?_
   refine WL.done ?_
   refine WK.ret ?_
   repeat (first | refine RQ.block ?_ | refine RQ.then_ ?_)
   refine RQ.body (results1 (by rfl) (by rfl)) (fun w s => ?_)
   refine ⟨(), trivial, ?_, s⟩
   rw [hd]
   rfl
 ·
  refine WK.region ?_
  refine Ly y_move ?_
  refine Ly (y_lenS (hu := by exact Tryz.runUnderlying9)) ?_
  refine Ly y_gtr ?_
  refine WL.done ?_
  refine Kcond (ht := fun hc7 => ?_) (hf := fun hc7 => ?_)
  ·
   have hc7 := of_decide_eq_true hc7
   refine WK.skip ?_
   refine WK.block ?_
   refine WK.seq ?_
   refine WK.seq ?_
   refine WK.region ?_
   refine Ly y_move ?_
   refine Ly y_move ?_
   refine Ly (y_indexStr (hu := by exact Tryz.runUnderlying9) (k := 0) (hc := by rfl)) ?_
   refine Le (e_call (by exact Tryz.call232) (t := contains_spec q p set c)) ?_
   rintro _ -
   try dsimp only
   refine Ly y_not ?_
   refine WL.done ?_
   refine Kcond (ht := fun hc12 => ?_) (hf := fun hc12 => ?_)
   ·
    refine WK.exit ?_
    repeat (first | refine XQ.then_ ?_ | refine XQ.block (by rfl) ?_)
    refine XQ.here ?_
    refine WK.seq ?_
    refine WK.region ?_
    refine Ly y_move ?_
    refine Ly y_assign ?_
    refine WL.done ?_
    refine WK.ret ?_
    repeat (first | refine RQ.block ?_ | refine RQ.then_ ?_)
    refine RQ.body (results1 (by rfl) (by rfl)) (fun w s => ?_)
    refine ⟨(), trivial, ?_, s⟩
    rw [hd, List.dropWhile_cons, if_neg (by simpa using hc12)]
   ·
    refine WK.skip ?_
    refine WK.region ?_
    refine Ly y_move ?_
    refine Ly (y_sliceStr_lo (hu := by exact Tryz.runUnderlying9) (l := 1) (hl := by simp)) ?_
    refine Ly y_assign ?_
    refine WL.done ?_
    refine WK.endBlock ?_
    refine Knext hN r ⟨by simp at hr; omega, ?_⟩ (by simp)
    rw [hd, List.dropWhile_cons, if_pos (by simpa using hc12)]
  ·
   have hc7 := of_decide_eq_false hc7
   simp [ByteArray.size] at hc7
set_option maxRecDepth 20000 in
set_option maxHeartbeats 1000000 in
theorem makeSet_spec (cs : List UInt8) (hl : cs.length ≤ 1000000) (h128 : ∀ c ∈ cs, c.toNat < 128) :
  Triple Tryz.prog 217 #[.string ⟨cs.toArray⟩] [] (Unit) (fun _ => True) (fun _ => .tuple #[.agg (setC cs).toArray, .bool true]) (fun _ => []) := by
 refine Triple.of_body (args := [.string ⟨cs.toArray⟩]) Tryz.func217 rfl Tryz.ntmps217 (by simp) (fun g F => ?_)
 dsimp only [numb, List.cons_append, List.nil_append]
 refine WK.seq ?_
 refine WK.region ?_
 refine Le (e_alloc Tryz.zeroValue305 (hv := zero305)) ?_
 rintro b2 -
 try dsimp only
 refine Ly y_assign ?_
 refine WL.done ?_
 refine WK.seq ?_
 refine WK.seq ?_
 refine WK.region ?_
 refine Ly y_assign ?_
 refine WL.done ?_
 refine WK.block ?_
 refine Kloop (ι := Nat) (fun i => i ≤ cs.length) (fun i => [(0, .string ⟨cs.toArray⟩), (2, .pointer (some ⟨b2, 0, none⟩)), (3, .bool false), (4, .int .i64 (i : Int))]) (fun i => row true b2 305 (setC (cs.take i)) :: F) (fun i => cs.length - i) (0) (Nat.zero_le _) (round := ?_)
 rintro i hi N hN
 refine WK.seq ?_
 refine WK.seq ?_
 refine WK.region ?_
 refine Ly y_move ?_
 refine Ly y_move ?_
 refine Ly (y_lenS (hu := by exact Tryz.runUnderlying9)) ?_
 refine Ly y_lss ?_
 refine WL.done ?_
 refine Kcond (ht := fun hc9 => ?_) (hf := fun hc9 => ?_)
 ·
  have hc9 := of_decide_eq_true hc9
  rw [str_size] at hc9
  obtain ⟨c, hc⟩ : ∃ c, cs[i]? = some c := ⟨_, List.getElem?_eq_getElem (by omega)⟩
  have hc8 := h128 c (List.mem_of_getElem? hc)
  refine WK.skip ?_
  refine WK.seq ?_
  refine WK.block ?_
  refine WK.seq ?_
  refine WK.region ?_
  refine Ly y_move ?_
  refine Ly y_move ?_
  refine Ly (y_indexStr (hu := by exact Tryz.runUnderlying9) (k := i) (hi := by first | rfl | omega) (hc := by exact hc)) ?_
  refine Ly y_assign ?_
  refine WL.done ?_
  refine WK.seq ?_
  refine WK.seq ?_
  refine WK.region ?_
  refine Ly y_move ?_
  refine Ly y_geq ?_
  refine WL.done ?_
  refine Kcond (ht := fun hc16 => ?_) (hf := fun hc16 => ?_)
  ·
   have hc16 := of_decide_eq_true hc16
   omega
  ·
   have hc16 := of_decide_eq_false hc16
   refine WK.skip ?_
   refine WK.region ?_
   refine Ly y_move ?_
   refine Ly (y_indexAddrA (hu := by exact Tryz.runUnderlying305) (hs := by exact Tryz.sizeOf4) (k := c.toNat) (hi := by first | rfl | omega) (hl := by first | decide | omega)) ?_
   refine Le0 (e_store (hk := by exact Tryz.sizeOf4) (h1 := by rfl) (hl' := SetAts.cons (SetAt.mk (show 0 + c.toNat * 1 < _ from by rw [setC_len]; omega)) SetAts.nil)) ?_
   rintro _ -
   try dsimp only
   refine WL.done ?_
   refine WK.endBlock ?_
   refine WK.region ?_
   refine Ly y_move ?_
   refine Ly y_add ?_
   refine Ly y_assign ?_
   refine WL.done ?_
   apply WK.next hN (i + 1) (by omega) (by omega) (by repeat (first | exact KK.nil | refine KK.cons (by first | rfl | (simp; done)) ?_))
   rw [List.take_add_one, hc, Option.toList_some, ← setC_set, show (setC (cs.take i)).set c.toNat (.bool true) = (setC (cs.take i)).set (0 + c.toNat * 1) (.bool true) from by rw [show 0 + c.toNat * 1 = c.toNat from by omega]]
   exact (by repeat (first | exact SelL.nil | exact SelL.self | apply SelL.cons | exact Sel.here | apply Sel.there | apply SelL.skip))
 ·
  have hc9 := of_decide_eq_false hc9
  rw [str_size] at hc9
  obtain rfl : i = cs.length := by omega
  rw [List.take_length]
  refine WK.exit ?_
  repeat (first | refine XQ.then_ ?_ | refine XQ.block (by rfl) ?_)
  refine XQ.here ?_
  refine WK.seq ?_
  refine WK.region ?_
  refine Ly (y_loadA (ha := Tryz.isAgg305) (hk := Tryz.sizeOf305) (hv := cells_all (setC_len _))) ?_
  refine Le0 (e_store (hk := by exact Tryz.sizeOf305) (h1 := by rfl) (hl' := setAts_all rfl)) ?_
  rintro _ -
  try dsimp only
  refine Ly y_assign ?_
  refine WL.done ?_
  refine WK.ret ?_
  repeat (first | refine RQ.block ?_ | refine RQ.then_ ?_)
  refine RQ.body (resultsV2 (by rfl) (.agg (by rfl) (by exact Tryz.isAgg305) (by exact Tryz.sizeOf305) (by repeat (first | exact .here | apply Sel.there)) (cells_all (setC_len _))) (.tmp (by rfl))) (fun w s => ?_)
  exact ⟨(), trivial, rfl, Sat.drop (l := [_]) s⟩
set_option maxRecDepth 20000 in
set_option maxHeartbeats 1000000 in
theorem trimLeft_spec (cs set : List UInt8) (hl : cs.length ≤ 1000000) (h2 : 2 ≤ set.length) (hs : set.length ≤ 1000000) (h128 : ∀ c ∈ set, c.toNat < 128) :
  Triple Tryz.prog 196 #[.string ⟨cs.toArray⟩, .string ⟨set.toArray⟩] [] (Unit) (fun _ => True) (fun _ => .string ⟨(cs.dropWhile fun c => decide (c ∈ set)).toArray⟩) (fun _ => []) := by
 refine Triple.of_body (args := [.string ⟨cs.toArray⟩, .string ⟨set.toArray⟩]) Tryz.func196 rfl Tryz.ntmps196 (by simp) (fun g F => ?_)
 dsimp only [numb, List.cons_append, List.nil_append]
 refine WK.seq ?_
 refine WK.region ?_
 refine Ly y_assign ?_
 refine WL.done ?_
 refine WK.seq ?_
 refine WK.seq ?_
 refine WK.region ?_
 refine Ly y_move ?_
 refine Ly y_strEql ?_
 refine Ly y_move ?_
 refine WL.split (d := 9) (by rfl) (fun hc9 => ?_) (fun hc9 => ?_)
 ·
  have hc9 := of_decide_eq_true hc9
  refine Lz ?_
  refine Lz ?_
  refine Ly y_pick_true ?_
  refine WL.done ?_
  refine Kcond (ht := fun _ => ?_) (hf := fun h => by cases h)
  refine WK.seq ?_
  refine WK.region ?_
  refine Ly y_move ?_
  refine Ly y_assign ?_
  refine WL.done ?_
  refine WK.ret ?_
  repeat (first | refine RQ.block ?_ | refine RQ.then_ ?_)
  refine RQ.body (results1 (by rfl) (by rfl)) (fun w s => ?_)
  obtain rfl : cs = [] := by simpa using hc9
  exact ⟨(), trivial, rfl, s⟩
 ·
  have hc9 := of_decide_eq_false hc9
  refine Lyg y_move ?_
  refine Lyg y_strEql ?_
  refine Ly y_pick_false ?_
  refine WL.done ?_
  refine Kcond (ht := fun hc12 => ?_) (hf := fun hc12 => ?_)
  ·
   have hc12 := of_decide_eq_true hc12
   rw [hc12] at h2
   simp at h2
  ·
   have hc12 := of_decide_eq_false hc12
   refine WK.skip ?_
   refine WK.seq ?_
   refine WK.seq ?_
   refine WK.region ?_
   refine Ly y_move ?_
   refine Ly (y_lenS (hu := by exact Tryz.runUnderlying9)) ?_
   refine Ly y_eql ?_
   refine Ly y_move ?_
   refine WL.split (d := 17) (by rfl) (fun hc17 => ?_) (fun hc17 => ?_)
   ·
    have hc17 := of_decide_eq_true hc17
    rw [str_size] at hc17
    omega
   ·
    have hc17 := of_decide_eq_false hc17
    refine Lz ?_
    refine Lz ?_
    refine Lz ?_
    refine Ly y_pick_false ?_
    refine WL.done ?_
    refine Kcond (ht := fun h => by cases h) (hf := fun _ => ?_)
    refine WK.skip ?_
    refine WK.seq ?_
    refine WK.seq ?_
    refine WK.region ?_
    refine Ly y_move ?_
    refine Le (e_call (by exact Tryz.call217) (t := makeSet_spec set hs h128)) ?_
    rintro _ -
    try dsimp only
    refine Ly y_move ?_
    refine Ly y_extract ?_
    refine Ly y_extract ?_
    refine Le (e_alloc Tryz.zeroValue305 (hv := zero305)) ?_
    rintro b5 -
    try dsimp only
    refine Le0 (e_store (hk := by exact Tryz.sizeOf305) (h1 := by rfl) (hl' := (setAts_all (by rw [setC_len, setC_len])))) ?_
    rintro _ -
    try dsimp only
    refine Ly y_assign ?_
    refine WL.done ?_
    refine WK.seq ?_
    refine WK.region ?_
    refine Ly y_move ?_
    refine WL.done ?_
    refine Kcond (ht := fun _ => ?_) (hf := fun h => by cases h)
    refine WK.seq ?_
    refine WK.region ?_
    refine Ly y_move ?_
    refine Le (e_call (by exact Tryz.call218) (t := trimA_spec b5 true cs set hl)) ?_
    rintro _ -
    try dsimp only
    refine Ly y_assign ?_
    refine WL.done ?_
    refine WK.ret ?_
    repeat (first | refine RQ.block ?_ | refine RQ.then_ ?_)
    refine RQ.body (results1 (by rfl) (by rfl)) (fun w s => ?_)
    exact ⟨(), trivial, rfl, Sat.drop (l := [_]) s⟩
set_option maxRecDepth 20000 in
set_option maxHeartbeats 1000000 in
theorem span_spec (cs set : List UInt8) (hl : cs.length ≤ 1000000) (h2 : 2 ≤ set.length) (hs : set.length ≤ 1000000) (h128 : ∀ c ∈ set, c.toNat < 128) :
  Triple Tryz.prog 180 #[.string ⟨cs.toArray⟩, .string ⟨set.toArray⟩] [] (Unit) (fun _ => True) (fun _ => .int .i64 ((cs.length : Int) - (cs.dropWhile fun c => decide (c ∈ set)).length)) (fun _ => []) := by
 refine Triple.of_body (args := [.string ⟨cs.toArray⟩, .string ⟨set.toArray⟩]) Tryz.func180 rfl Tryz.ntmps180 (by simp) (fun g F => ?_)
 dsimp only [numb, List.cons_append, List.nil_append]
 have hd : (cs.dropWhile fun c => decide (c ∈ set)).length ≤ cs.length := (List.dropWhile_sublist _).length_le
 refine WK.seq ?_
 refine WK.region ?_
 refine Ly y_assign ?_
 refine WL.done ?_
 refine WK.seq ?_
 refine WK.region ?_
 refine Ly y_move ?_
 refine Ly (y_lenS (hu := by exact Tryz.runUnderlying9)) ?_
 refine Ly y_move ?_
 refine Ly y_move ?_
 refine Le (e_call (by exact Tryz.call196) (t := trimLeft_spec cs set hl h2 hs h128)) ?_
 rintro _ -
 try dsimp only
 refine Ly (y_lenS (hu := by exact Tryz.runUnderlying9)) ?_
 refine Ly (y_sub (hr := (show IntKind.i64.wrap _ = ((cs.length : Int) - (cs.dropWhile fun c => decide (c ∈ set)).length) from by rw [str_size, str_size]; exact w64 (by omega) (by omega)))) ?_
 refine Ly y_assign ?_
 refine WL.done ?_
 refine WK.ret ?_
 repeat (first | refine RQ.block ?_ | refine RQ.then_ ?_)
 refine RQ.body (results1 (by rfl) (by rfl)) (fun w s => ?_)
 exact ⟨(), trivial, rfl, s⟩
end Go.Proofs.YtkakfmcjiabjjaaGreatDoor
