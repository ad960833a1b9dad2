import Derived.Test.YtkakfmcjiabjjaaGreatDoorLdgA
namespace Go.Proofs.YtkakfmcjiabjjaaGreatDoor
set_option linter.unusedVariables false
set_option linter.unusedSimpArgs false
set_option linter.unusedSectionVars false
set_option linter.unnecessarySimpa false
open Go Go.Sep
attribute [local irreducible] row sl mapO held exL allR byt mapI slr mapK rangeK vec pack
/-- A step that spawns: the block of its one move, and the move. -/
def stepC (s : Nat × MoveM) : List Value := [.int .i64 0, .int .i64 0, .int .i64 0, .int .i64 0, .int .i64 (-1), .int .i64 0, .slice (some ⟨s.1, 0, none⟩) 1 1]
theorem stepC_len : ∀ x, (stepC x).length = 7 := fun _ => rfl
def mvV (s : Nat × MoveM) : Value := .slice (some ⟨s.1, 0, none⟩) 1 1
def mvR (_ : Value) (s : Nat × MoveM) : HProp := sl true 59 5 (some ⟨s.1, 0, none⟩) 1 1 (flat moveC [s.2])
def okSp (m : MoveM) : Prop := m.frm = 0 ∧ (1 ≤ m.to ∧ m.to ≤ 3) ∧ (0 ≤ m.item ∧ m.item < 4) ∧ (1 ≤ m.n ∧ m.n ≤ 39)
theorem cutA_zero (ad : Option Addr) (cap : Nat) : cutA ad cap 0 1 = ad := by
  unfold cutA
  split
  · rfl
  · cases ad <;> simp [Addr.add]
def toJ (to : Int) (k j : Nat) : Int := if j = 0 then to else 1 + (to + 5 * (k : Int)) % 12
theorem elem52 : ElemT Tryz.prog 52 55 1 8 := ⟨Tryz.underlying52, ⟨Tryz.t55, _, by kernel_rfl, rfl, rfl, rfl, rfl⟩⟩
set_option maxRecDepth 20000 in
set_option maxHeartbeats 4000000 in
theorem spawns_spec (ad : Option Addr) (len cap : Nat) (l : List Int) (hl : ∀ n ∈ l, -9223372036854775808 ≤ n ∧ n ≤ 9223372036854775807) :
  Triple Tryz.prog 51 #[.slice ad len cap] [slr 1 ad len (l.map (Value.int .i64))] (List (Nat × MoveM) × Option Addr × Nat) (fun x => x.1.length ≤ 8 ∧ ∀ s ∈ x.1, okSp s.2) (fun x => .slice x.2.1 x.1.length x.2.2) (fun x => [sl true 62 7 x.2.1 x.1.length x.2.2 (flat stepC x.1), allR mvR (x.1.map mvV) x.1, slr 1 ad len (l.map (Value.int .i64))]) := by
 refine Triple.of_body (args := [.slice ad len cap]) Tryz.func51 rfl Tryz.ntmps51 (by simp) (fun g F => ?_)
 dsimp only [numb, List.cons_append, List.nil_append]
 refine WK.seq ?_
 refine WK.region ?_
 refine Ly y_assign ?_
 refine WL.done ?_
 refine WK.seq ?_
 refine WK.region ?_
 refine Ly y_assign ?_
 refine WL.done ?_
 refine WK.seq ?_
 refine WK.seq ?_
 refine WK.region ?_
 refine Ly y_assign ?_
 refine WL.done ?_
 refine WK.block ?_
 refine WK.sat (fun w s => Sat.nilSl s true 62 7) ?_
 refine WK.sat (fun w s => Sat.allNil (Rl := mvR) s) ?_
 refine Kloop (ι := Nat × List (Nat × MoveM) × Option Addr × Nat) (fun x => x.1 ≤ 8 ∧ x.2.1.length ≤ x.1 ∧ ∀ s ∈ x.2.1, okSp s.2) (fun x => [(0, .slice ad len cap), (3, .slice x.2.2.1 x.2.1.length x.2.2.2), (4, .int .i64 (x.1 : Int))]) (fun x => sl true 62 7 x.2.2.1 x.2.1.length x.2.2.2 (flat stepC x.2.1) :: allR mvR (x.2.1.map mvV) x.2.1 :: slr 1 ad len (l.map (Value.int .i64)) :: F) (fun x => 8 - x.1) ((0, [], none, 0)) (⟨Nat.zero_le _, Nat.le_refl _, fun s h => by cases h⟩) (round := ?_)
 rintro ⟨i, L, sad, scap⟩ ⟨hi, hLl, hok⟩ N hN
 dsimp only at hi hLl hok ⊢
 refine WK.seq ?_
 refine WK.seq ?_
 refine WK.region ?_
 refine Ly y_move ?_
 refine Ly y_lss ?_
 refine WL.done ?_
 refine Kcond (ht := fun hc7 => ?_) (hf := fun hc7 => ?_)
 ·
  have hc7 := of_decide_eq_true hc7
  refine WK.skip ?_
  refine WK.seq ?_
  refine WK.block ?_
  refine WK.seq ?_
  refine WK.region ?_
  refine Ly y_move ?_
  refine Ly y_move ?_
  refine Ly y_mul ?_
  refine Le (e_call (by exact Tryz.call32) (t := pickR_spec ad len cap l (2 * (i : Int)) 40 (by omega) hl)) ?_
  rintro _ -
  have h13 := pickM_range l (2 * (i : Int)) 40 (by omega)
  try dsimp only
  refine Ly y_assign ?_
  refine WL.done ?_
  refine WK.seq ?_
  refine WK.region ?_
  refine Ly y_move ?_
  refine Ly y_gtr ?_
  refine WL.done ?_
  refine Kcond (ht := fun hc15 => ?_) (hf := fun hc15 => ?_)
  ·
   have hc15 := of_decide_eq_true hc15
   refine WK.region ?_
   refine Ly y_move ?_
   refine Ly y_move ?_
   refine Ly (y_rem (hr := Int.tmod_eq_emod_of_nonneg (by omega))) ?_
   refine Ly y_add ?_
   refine Ly y_move ?_
   refine Ly y_move ?_
   refine Ly y_mul ?_
   refine Ly y_add ?_
   refine Le (e_call (by exact Tryz.call32) (t := pickR_spec ad len cap l (2 * (i : Int) + 1) 4 (by omega) hl)) ?_
   rintro _ -
   have h24 := pickM_range l (2 * (i : Int) + 1) 4 (by omega)
   try dsimp only
   refine Ly y_move ?_
   refine Ly (y_build (hz := by exact Tryz.zeroValue59) (hu := by exact Tryz.runUnderlying59) (hp := by exact fun w => places59 w Tryz.underlying59) (hne := by first | decide | simp)) ?_
   refine Le (e_mkSlice1 (hu := by exact Tryz.runUnderlying60) (hk := by exact Tryz.sizeOf59) (hz := by exact Tryz.zeroValue59) (hk0 := by rfl) (hb := by decide) (h1 := by rfl)) ?_
   rintro b27 -
   try dsimp only
   refine Ly (y_build (hz := by exact Tryz.zeroValue62) (hu := by exact Tryz.runUnderlying62) (hp := by exact fun w => places62 w Tryz.underlying62) (hne := by first | decide | simp)) ?_
   refine Le (e_mkSlice1 (hu := by exact Tryz.runUnderlying108) (hk := by exact Tryz.sizeOf62) (hz := by exact Tryz.zeroValue62) (hk0 := by rfl) (hb := by decide) (h1 := by rfl)) ?_
   rintro b29 -
   try dsimp only
   refine Le (e_append (et := elem108) (htx := by exact Tryz.underlying108) (hb := by omega) (hm := by omega)) ?_
   rintro ⟨ad30, cap30⟩ -
   try dsimp only
   refine Ly y_assign ?_
   refine WL.done ?_
   refine WK.endBlock ?_
   refine WK.region ?_
   refine Ly y_move ?_
   refine Ly y_add ?_
   refine Ly y_assign ?_
   refine WL.done ?_
   refine WK.sat (fun w s => Sat.allSnoc (Rl := mvR) (v := mvV (b27, (⟨0, 1 + (i : Int) % 3, pickM l (2 * (i : Int) + 1) 4, pickM l (2 * (i : Int)) 40⟩ : MoveM))) (x := (b27, (⟨0, 1 + (i : Int) % 3, pickM l (2 * (i : Int) + 1) 4, pickM l (2 * (i : Int)) 40⟩ : MoveM))) (s.sel (As := [allR mvR (L.map mvV) L, mvR (mvV (b27, (⟨0, 1 + (i : Int) % 3, pickM l (2 * (i : Int) + 1) 4, pickM l (2 * (i : Int)) 40⟩ : MoveM))) (b27, (⟨0, 1 + (i : Int) % 3, pickM l (2 * (i : Int) + 1) 4, pickM l (2 * (i : Int)) 40⟩ : MoveM))]) (by repeat (first | exact SelL.nil | exact SelL.self | apply SelL.cons | exact Sel.here | apply Sel.there | apply SelL.skip)))) ?_
   apply WK.next hN (i + 1, L ++ [(b27, (⟨0, 1 + (i : Int) % 3, pickM l (2 * (i : Int) + 1) 4, pickM l (2 * (i : Int)) 40⟩ : MoveM))], ad30, cap30) ⟨by dsimp only; omega, by simp only [List.length_append, List.length_singleton]; omega, fun s hs => ?_⟩ (by dsimp only; omega) (by refine KK.cons rfl (KK.cons (by simp only [List.length_append, List.length_singleton]; rfl) (KK.cons (by first | rfl | (simp; done)) KK.nil)))
   · dsimp only
     rw [List.length_append, flat_app, flat_one, List.map_append]
     exact (by repeat (first | exact SelL.nil | exact SelL.self | apply SelL.cons | exact Sel.here | apply Sel.there | apply SelL.skip))
   · rcases List.mem_append.1 hs with hs | hs
     · exact hok s hs
     · obtain rfl : s = _ := by simpa using hs
       unfold okSp
       dsimp only
       omega
  ·
   have hc15 := of_decide_eq_false hc15
   refine WK.skip ?_
   refine WK.endBlock ?_
   refine WK.region ?_
   refine Ly y_move ?_
   refine Ly y_add ?_
   refine Ly y_assign ?_
   refine WL.done ?_
   exact Knext hN (i + 1, L, sad, scap) ⟨by dsimp only; omega, by dsimp only; omega, hok⟩ (by dsimp only; omega)
 ·
  have hc7 := of_decide_eq_false hc7
  refine WK.exit ?_
  repeat (first | refine XQ.then_ ?_ | refine XQ.block (by rfl) ?_)
  refine XQ.here ?_
  refine WK.seq ?_
  refine WK.region ?_
  refine Ly y_move ?_
  refine Ly y_assign ?_
  refine WL.done ?_
  refine WK.ret ?_
  repeat (first | refine RQ.block ?_ | refine RQ.then_ ?_)
  refine RQ.body (results1 (by rfl) (by rfl)) (fun w s => ?_)
  exact ⟨(L, sad, scap), ⟨by dsimp only; omega, hok⟩, rfl, s.toCs (by repeat (first | exact SelL.nil | exact SelL.self | apply SelL.cons | exact Sel.here | apply Sel.there | apply SelL.skip))⟩
set_option maxRecDepth 20000 in
set_option maxHeartbeats 1000000 in
theorem ledgers1_spec (ad : Option Addr) (len cap : Nat) (l : List Int) (hl : ∀ n ∈ l, -9223372036854775808 ≤ n ∧ n ≤ 9223372036854775807) :
  Triple Tryz.prog 26 #[.int .i64 1, .slice ad len cap] [slr 1 ad len (l.map (Value.int .i64))] (Nat × StkM × Nat × Option Addr × Nat) (fun y => LInv y.2.1 y.2.2.1 ∧ y.2.2.1 ≤ 8) (fun y => .tuple #[.slice y.2.2.2.1 1 y.2.2.2.2, .bool true]) (fun y => [sl true 55 1 y.2.2.2.1 1 y.2.2.2.2 [.pointer (some ⟨y.1, 0, none⟩)], ledP y.1 y.2.1 y.2.2.1, slr 1 ad len (l.map (Value.int .i64))]) := by
 refine Triple.of_body (args := [.int .i64 1, .slice ad len cap]) Tryz.func26 rfl Tryz.ntmps26 (by simp) (fun g F => ?_)
 dsimp only [numb, List.cons_append, List.nil_append]
 refine WK.seq ?_
 refine WK.region ?_
 refine Ly y_assign ?_
 refine Ly y_assign ?_
 refine WL.done ?_
 refine WK.seq ?_
 refine WK.region ?_
 refine Ly y_assign ?_
 refine WL.done ?_
 refine WK.seq ?_
 refine WK.seq ?_
 refine WK.region ?_
 refine Ly y_assign ?_
 refine WL.done ?_
 refine WK.block ?_
 refine Kloop (ι := Option (Nat × StkM × Nat × Option Addr × Nat)) (fun x => ∀ y, x = some y → LInv y.2.1 y.2.2.1 ∧ y.2.2.1 ≤ 8) (fun x => match x with | none => [(0, .int .i64 1), (1, .slice ad len cap), (6, .slice none 0 0), (7, .int .i64 0)] | some y => [(0, .int .i64 1), (1, .slice ad len cap), (6, .slice y.2.2.2.1 1 y.2.2.2.2), (7, .int .i64 1)]) (fun x => match x with | none => slr 1 ad len (l.map (Value.int .i64)) :: F | some y => sl true 55 1 y.2.2.2.1 1 y.2.2.2.2 [.pointer (some ⟨y.1, 0, none⟩)] :: ledP y.1 y.2.1 y.2.2.1 :: slr 1 ad len (l.map (Value.int .i64)) :: F) (fun x => match x with | none => 1 | some _ => 0) (none) (fun y h => by cases h) (round := ?_)
 rintro x hx N hN
 refine WK.seq ?_
 refine WK.seq ?_
 rcases x with _ | y
 ·
  dsimp only
  refine WK.region ?_
  refine Ly y_move ?_
  refine Ly y_move ?_
  refine Ly y_lss ?_
  refine WL.done ?_
  refine Kcond (ht := fun _ => ?_) (hf := fun h => by cases h)
  refine WK.skip ?_
  refine WK.seq ?_
  refine WK.block ?_
  refine WK.seq ?_
  refine WK.region ?_
  refine Ly y_move ?_
  refine Le (e_call (by exact Tryz.call38) (t := cat22_spec)) ?_
  rintro ⟨cad, ccap⟩ -
  try dsimp only
  refine Le (e_call (by exact Tryz.call37) (t := ledNew_spec true cad ccap cat22 cat22_good 0 (by decide))) ?_
  rintro ⟨q, ⟨ia, ic, sb, ta, tc, fa, fc, sa, sc, ib, gb⟩⟩ hW
  obtain ⟨e1, e2, e3, e4, e5, e6⟩ := hW
  dsimp only at e1 e2 e3 e4 e5 e6 ⊢
  subst e3 e4 e5 e6
  try dsimp only
  refine Ly y_move ?_
  refine Ly y_extract ?_
  refine Ly y_extract ?_
  refine Ly y_assign ?_
  refine Ly y_assign ?_
  refine WL.done ?_
  refine WK.sat (fun w s => Sat.mapKNew (enc := plE) (s.sel1 (A := mapO true sb [] 0) (by repeat (first | exact .here | apply Sel.there)))) ?_
  refine WK.sat (fun w s => Sat.mapKNew (enc := (fun i : Int => Value.int .i64 i)) (s.sel1 (A := mapO true ib [] 0) (by repeat (first | exact .here | apply Sel.there)))) ?_
  refine WK.sat (fun w s => Sat.mapKNew (enc := (fun i : Int => Value.int .i64 i)) (s.sel1 (A := mapO true gb [] 0) (by repeat (first | exact .here | apply Sel.there)))) ?_
  refine WK.sat (fun w s => Sat.nilSl s true 62 7) ?_
  refine WK.sat (fun w s => Sat.nilSl s true 141 11) ?_
  refine WK.sat (fun w s => Sat.allNil (Rl := vec false 145 3 lotC) s) ?_
  refine WK.sat (fun w s => Sat.ledShut (q := q) (st := []) (k := 0) (Ps := slr 1 ad len (l.map (Value.int .i64)) :: F) ⟨ia, ic, sb, ta, tc, none, 0, none, 0, ib, gb⟩ [] [] [0, 0, 0, 0] [] ⟨⟨rfl, fun i hi => absurd hi (Nat.not_lt_zero _)⟩, rfl, rfl, fun t ht => by simp at ht; omega⟩ (s.toCs (by repeat (first | exact SelL.nil | exact SelL.self | apply SelL.cons | exact Sel.here | apply Sel.there | apply SelL.skip)))) ?_
  refine WK.seq ?_
  refine WK.seq ?_
  refine WK.region ?_
  refine Ly y_move ?_
  refine Ly (y_eqlPtr (hu := by exact Tryz.runUnderlying55)) ?_
  refine Ly y_move ?_
  refine Lyg y_move ?_
  refine Lyg y_neq ?_
  refine Ly y_pick_false ?_
  refine WL.done ?_
  refine Kcond (ht := fun h => by cases h) (hf := fun _ => ?_)
  refine WK.skip ?_
  refine WK.seq ?_
  refine WK.region ?_
  refine Ly y_move ?_
  refine Ly y_move ?_
  refine Ly (y_len (hu := by exact Tryz.runUnderlying22)) ?_
  refine Ly y_move ?_
  refine Ly y_mul ?_
  refine Ly y_min ?_
  refine Ly (y_slice_lo (hu := by exact Tryz.runUnderlying22) (hs := by exact Tryz.sizeOf3) (l := 0) (hi := by first | rfl | omega) (hl := by omega)) ?_
  rw [cutA_zero, Nat.sub_zero, Nat.sub_zero]
  refine Le (e_call (by exact Tryz.call51) (t := spawns_spec ad len cap l hl)) ?_
  rintro ⟨Sp, sad, scap⟩ ⟨hSl, hSok⟩
  dsimp only at hSl hSok ⊢
  try dsimp only
  refine Ly y_assign ?_
  refine WL.done ?_
  refine WK.seq ?_
  refine WK.seq ?_
  refine WK.region ?_
  refine Ly y_assign ?_
  refine WL.done ?_
  refine WK.block ?_
  refine Kloop (ι := Nat × StkM) (fun x => x.1 ≤ Sp.length ∧ LInv x.2 x.1) (fun x => [(0, .int .i64 1), (1, .slice ad len cap), (6, .slice none 0 0), (7, .int .i64 0), (8, .pointer (some ⟨q, 0, none⟩)), (10, .slice sad Sp.length scap), (11, .int .i64 (x.1 : Int))]) (fun x => ledP q x.2 x.1 :: sl true 62 7 sad Sp.length scap (flat stepC Sp) :: allR mvR ((Sp.drop x.1).map mvV) (Sp.drop x.1) :: slr 1 ad len (l.map (Value.int .i64)) :: F) (fun x => Sp.length - x.1) ((0, [])) (⟨Nat.zero_le _, LInv.start⟩) (round := ?_)
  rintro ⟨k, st⟩ ⟨hk, hinv⟩ N2 hN2
  dsimp only at hk hinv ⊢
  refine WK.seq ?_
  refine WK.seq ?_
  refine WK.region ?_
  refine Ly y_move ?_
  refine Ly y_move ?_
  refine Ly (y_len (hu := by exact Tryz.runUnderlying108)) ?_
  refine Ly y_lss ?_
  refine WL.done ?_
  refine Kcond (ht := fun hc43 => ?_) (hf := fun hc43 => ?_)
  ·
   have hc43 := of_decide_eq_true hc43
   obtain ⟨⟨b, m⟩, hs⟩ : ∃ x, Sp[k]? = some x := ⟨_, List.getElem?_eq_getElem (by omega)⟩
   have hd : Sp.drop k = (b, m) :: Sp.drop (k + 1) := by
     obtain ⟨h1, h2⟩ := List.getElem?_eq_some_iff.1 hs
     rw [List.drop_eq_getElem_cons h1, h2]
   rw [hd, List.map_cons]
   have hom := hSok _ (List.mem_of_getElem? hs)
   obtain ⟨frm, to, item, n⟩ := m
   obtain ⟨hf, ht, hit, hn⟩ := hom
   dsimp only at hf ht hit hn
   subst hf
   obtain ⟨it, rfl⟩ : ∃ it : Nat, item = (it : Int) := ⟨item.toNat, by omega⟩
   refine WK.sat (fun w s => Sat.allUncons (Rl := mvR) (s.sel (As := [allR mvR (mvV (b, ⟨0, to, (it : Int), n⟩) :: (Sp.drop (k + 1)).map mvV) ((b, ⟨0, to, (it : Int), n⟩) :: Sp.drop (k + 1))]) (by repeat (first | exact SelL.nil | exact SelL.self | apply SelL.cons | exact Sel.here | apply Sel.there | apply SelL.skip)))) ?_
   dsimp only [mvR]
   refine WK.skip ?_
   refine WK.seq ?_
   refine WK.block ?_
   refine WK.seq ?_
   refine WK.seq ?_
   refine WK.region ?_
   refine Ly y_assign ?_
   refine WL.done ?_
   refine WK.block ?_
   refine Kloop (ι := Nat) (fun j => j ≤ 1) (fun j => [(0, .int .i64 1), (1, .slice ad len cap), (6, .slice none 0 0), (7, .int .i64 0), (8, .pointer (some ⟨q, 0, none⟩)), (10, .slice sad Sp.length scap), (11, .int .i64 (k : Int)), (12, .int .i64 (j : Int))]) (fun j => sl true 59 5 (some ⟨b, 0, none⟩) 1 1 [.int .i64 0, .int .i64 (toJ to k j), .int .i64 (it : Int), .int .i64 n, .slice none 0 0] :: ledP q st k :: sl true 62 7 sad Sp.length scap (flat stepC Sp) :: allR mvR ((Sp.drop (k + 1)).map mvV) (Sp.drop (k + 1)) :: slr 1 ad len (l.map (Value.int .i64)) :: F) (fun j => 1 - j) (0) (Nat.zero_le _) (round := ?_)
   rintro j hj N3 hN3
   refine WK.seq ?_
   refine WK.seq ?_
   refine WK.region ?_
   refine Ly y_move ?_
   refine Ly y_move ?_
   refine Ly y_move ?_
   refine Ly (y_indexAddrS (hu := by exact Tryz.runUnderlying108) (hz := by exact Tryz.sizeOf62) (j := k) (hi := by first | rfl | omega) (hj' := by omega) (hj := by omega)) ?_
   refine Ly (y_fieldAddrS (hu := by exact Tryz.runUnderlying62) (hs := by exact Tryz.sizeOf60)) ?_
   refine Ly (y_loadS (ha := by exact Tryz.isAgg60) (hv := (by exact flat_get (v := Value.slice (some ⟨b, 0, none⟩) 1 1) stepC_len hs (j := 6) rfl rfl))) ?_
   refine Ly (y_len (hu := by exact Tryz.runUnderlying60)) ?_
   refine Ly y_lss ?_
   refine WL.done ?_
   refine Kcond (ht := fun hc53 => ?_) (hf := fun hc53 => ?_)
   ·
    have hc53 := of_decide_eq_true hc53
    obtain rfl : j = 0 := by omega
    refine WK.skip ?_
    refine WK.seq ?_
    refine WK.block ?_
    refine Kdr (l := [(0, 0), (1, 0), (2, 0), (3, 0), (4, 0), (5, 0), (6, 0), (7, 0), (8, 0), (9, 0), (10, 0), (11, 0), (15, 0), (16, 0), (12, 1), (13, 1), (14, 1), (17, 0), (18, 0), (19, 0), (20, 2), (21, 2), (22, 2)]) (Cs := [sl true 62 7 sad Sp.length scap (flat stepC Sp)]) (h := ?_)
    refine Oy (y := y_move) (h := ?_)
    refine Oy (y := y_move) (h := ?_)
    refine Oy (y := y_indexAddrS (hu := by exact Tryz.runUnderlying108) (hz := by exact Tryz.sizeOf62) (j := k) (hi := by first | rfl | omega) (hj' := by omega) (hj := by omega)) (h := ?_)
    refine Oy (y := y_fieldAddrS (hu := by exact Tryz.runUnderlying62) (hs := by exact Tryz.sizeOf60)) (h := ?_)
    refine Oy (y := (y_loadS (ha := by exact Tryz.isAgg60) (hv := (by exact flat_get (v := Value.slice (some ⟨b, 0, none⟩) 1 1) stepC_len hs (j := 6) rfl rfl)))) (h := ?_)
    refine Oy (y := y_move) (h := ?_)
    refine Oy (y := y_move) (h := ?_)
    refine Oy (y := y_move) (h := ?_)
    refine Oy (y := y_indexAddrS (hu := by exact Tryz.runUnderlying108) (hz := by exact Tryz.sizeOf62) (j := k) (hi := by first | rfl | omega) (hj' := by omega) (hj := by omega)) (h := ?_)
    refine Oy (y := y_fieldAddrS (hu := by exact Tryz.runUnderlying62) (hs := by exact Tryz.sizeOf60)) (h := ?_)
    refine Oy (y := (y_loadS (ha := by exact Tryz.isAgg60) (hv := (by exact flat_get (v := Value.slice (some ⟨b, 0, none⟩) 1 1) stepC_len hs (j := 6) rfl rfl)))) (h := ?_)
    refine Oy (y := y_move) (h := ?_)
    refine Oy (y := y_move) (h := ?_)
    refine Oy (y := y_mul) (h := ?_)
    refine Oe (e := Yld.eff (yld_indexAddrS (by rfl) (by rfl) (by exact Tryz.runUnderlying60) (by exact Tryz.sizeOf59) (by repeat (first | exact .here | apply Sel.there)) (0) (by first | rfl | omega) (by omega) (by omega) (by rfl))) (h := ?_)
    rintro _ -
    try dsimp only
    refine Oe (e := Yld.eff (yld_fieldAddrS (by rfl) (by exact Tryz.runUnderlying59) (by rfl) (by exact Tryz.sizeOf3) (by rfl) (by rfl))) (h := ?_)
    rintro _ -
    try dsimp only
    refine Oe (e := Yld.eff (yld_loadS (by rfl) (by exact Tryz.isAgg3) (by repeat (first | exact .here | apply Sel.there)) (by exact (rfl : _ = some (Value.int .i64 to))))) (h := ?_)
    rintro _ -
    try dsimp only
    refine Oy (y := y_add) (h := ?_)
    refine Oy (y := y_rem (hr := Int.tmod_eq_emod_of_nonneg (by omega))) (h := ?_)
    refine Oy (y := y_add) (h := ?_)
    refine Ob (e := Yld.eff (yld_indexAddrS (by rfl) (by rfl) (by exact Tryz.runUnderlying60) (by exact Tryz.sizeOf59) (by repeat (first | exact .here | apply Sel.there)) (0) (by first | rfl | omega) (by omega) (by omega) (by rfl))) (h := ?_)
    rintro _ -
    try dsimp only
    refine Ob (e := Yld.eff (yld_fieldAddrS (by rfl) (by exact Tryz.runUnderlying59) (by rfl) (by exact Tryz.sizeOf3) (by rfl) (by rfl))) (h := ?_)
    rintro _ -
    try dsimp only
    refine Ob0 (e := e_storeS (hm := by exact Tryz.sizeOf3) (h1 := by rfl) (hne := by first | (simp; done) | (intro h; cases h))) (h := ?_)
    rintro _ -
    try dsimp only
    refine WO.done ?_
    refine WK.endBlock ?_
    refine WK.region ?_
    refine Ly y_move ?_
    refine Ly y_add ?_
    refine Ly y_assign ?_
    refine WL.done ?_
    exact Knext hN3 1 (Nat.le_refl _) (by decide)
   ·
    have hc53 := of_decide_eq_false hc53
    obtain rfl : j = 1 := by omega
    refine WK.exit ?_
    repeat (first | refine XQ.then_ ?_ | refine XQ.block (by rfl) ?_)
    refine XQ.here ?_
    refine WK.seq ?_
    refine WK.region ?_
    refine Ly y_move ?_
    refine Ly y_move ?_
    refine Ly y_move ?_
    refine Ly (y_indexAddrS (hu := by exact Tryz.runUnderlying108) (hz := by exact Tryz.sizeOf62) (j := k) (hi := by first | rfl | omega) (hj' := by omega) (hj := by omega)) ?_
    refine Ly (y_loadSA (ha := by exact Tryz.isAgg62) (hm := by exact Tryz.sizeOf62) (hv := by exact flat_cells stepC_len hs)) ?_
    refine Le (e_call (by exact Tryz.call27) (t := (postL_spec q st k hinv (by omega) (1 + (to + 5 * (k : Int)) % 12) n it (by omega) (by omega) (by omega) true (some ⟨b, 0, none⟩) 1))) ?_
    rintro _ -
    try dsimp only
    refine Ly y_move ?_
    refine Ly y_extract ?_
    refine Ly y_extract ?_
    refine Ly y_assign ?_
    refine Ly y_assign ?_
    refine WL.done ?_
    refine WK.seq ?_
    refine WK.region ?_
    refine Ly y_move ?_
    refine Ly y_neq ?_
    refine WL.done ?_
    refine Kcond (ht := fun h => by cases h) (hf := fun _ => ?_)
    refine WK.skip ?_
    refine WK.endBlock ?_
    refine WK.region ?_
    refine Ly y_move ?_
    refine Ly y_add ?_
    refine Ly y_assign ?_
    refine WL.done ?_
    exact Knext hN2 (k + 1, addL st (1 + (to + 5 * (k : Int)) % 12, (it : Int)) (lotK k n)) ⟨by dsimp only; omega, hinv.add (by omega) (by omega) (by omega) (by omega)⟩ (by dsimp only; omega)
  ·
   have hc43 := of_decide_eq_false hc43
   obtain rfl : k = Sp.length := by omega
   refine WK.exit ?_
   repeat (first | refine XQ.then_ ?_ | refine XQ.block (by rfl) ?_)
   refine XQ.here ?_
   refine WK.region ?_
   refine Ly y_move ?_
   refine Ly y_move ?_
   refine Le (e_mkSlice1 (hu := by exact Tryz.runUnderlying52) (hk := by exact Tryz.sizeOf55) (hz := by exact Tryz.zeroValue55) (hk0 := by rfl) (hb := by decide) (h1 := by rfl)) ?_
   rintro b91 -
   try dsimp only
   refine WL.sat (fun w s => Sat.nilSl s true 55 1) ?_
   refine Le (e_append (et := elem52) (htx := by exact Tryz.underlying52) (hb := by omega) (hm := by omega)) ?_
   rintro ⟨ad92, cap92⟩ -
   try dsimp only
   refine Ly y_assign ?_
   refine WL.done ?_
   refine WK.endBlock ?_
   refine WK.region ?_
   refine Ly y_move ?_
   refine Ly y_add ?_
   refine Ly y_assign ?_
   refine WL.done ?_
   have hNx := hN (some (q, st, Sp.length, ad92, cap92)) (fun y h => by cases h; exact ⟨hinv, hSl⟩) (by dsimp only; decide)
   dsimp only at hNx
   exact WK.nextAt hNx (by repeat (first | exact KK.nil | refine KK.cons (by first | rfl | (simp; done)) ?_)) (by repeat (first | exact SelL.nil | exact SelL.self | apply SelL.cons | exact Sel.here | apply Sel.there | apply SelL.skip))
 ·
  dsimp only
  refine WK.region ?_
  refine Ly y_move ?_
  refine Ly y_move ?_
  refine Ly y_lss ?_
  refine WL.done ?_
  refine Kcond (ht := fun h => by cases h) (hf := fun _ => ?_)
  refine WK.exit ?_
  repeat (first | refine XQ.then_ ?_ | refine XQ.block (by rfl) ?_)
  refine XQ.here ?_
  refine WK.seq ?_
  refine WK.region ?_
  refine Ly y_move ?_
  refine Ly y_assign ?_
  refine Ly y_assign ?_
  refine WL.done ?_
  refine WK.ret ?_
  repeat (first | refine RQ.block ?_ | refine RQ.then_ ?_)
  refine RQ.body (results2 (by rfl) (by rfl) (by rfl)) (fun w s => ?_)
  exact ⟨y, hx y rfl, rfl, s.toCs (by repeat (first | exact SelL.nil | exact SelL.self | apply SelL.cons | exact Sel.here | apply Sel.there | apply SelL.skip))⟩
end Go.Proofs.YtkakfmcjiabjjaaGreatDoor
