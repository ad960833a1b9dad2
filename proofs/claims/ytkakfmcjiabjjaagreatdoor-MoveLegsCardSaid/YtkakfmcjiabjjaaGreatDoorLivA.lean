import Derived.Test.YtkakfmcjiabjjaaGreatDoorPlanA
namespace Go.Proofs.YtkakfmcjiabjjaaGreatDoor
set_option linter.unusedVariables false
set_option linter.unusedSimpArgs false
set_option linter.unusedSectionVars false
set_option linter.unnecessarySimpa false
open Go Go.Sep
attribute [local irreducible] row sl mapO held exL allR byt mapI slr mapK rangeK vec pack
def hm0 : List HomeM := [⟨1, 0⟩]
def hm3 : List HomeM := [⟨1, 0⟩, ⟨10, 1⟩, ⟨20, 0⟩]
theorem vh_hm0 : VH 12 hm0 := by
  refine ⟨by decide, by decide, by simp [hm0], fun j h hh => ?_⟩
  rcases j with _ | j
  · cases hh
    exact ⟨by decide, by decide, by decide, fun _ => rfl, fun p hp _ => absurd hp (by decide)⟩
  · simp [hm0] at hh
theorem vh_hm3 : VH 12 hm3 := by
  refine ⟨by decide, by decide, by simp [hm3], fun j h hh => ?_⟩
  rcases j with _ | _ | _ | j
  · cases hh
    exact ⟨by decide, by decide, by decide, fun _ => rfl, fun p hp _ => absurd hp (by decide)⟩
  · cases hh
    exact ⟨by decide, by decide, by decide, fun h => absurd h (by decide), fun p _ hp => by cases hp; decide⟩
  · cases hh
    exact ⟨by decide, by decide, by decide, fun h => absurd h (by decide), fun p _ hp => by cases hp; decide⟩
  · simp [hm3] at hh
theorem live_split : changedM (splitRw 10 19 1) hm0 = hm3 := by rfl
theorem live_join : changedM (joinRw 1 0) hm3 = hm0 := by rfl
theorem live_splitOK : SplitOK hm0 10 19 1 := ⟨vh_hm0, by decide, by decide, by decide, by decide⟩
theorem live_joinOK : JoinOK hm3 1 0 := ⟨vh_hm3, by decide, by decide⟩
theorem live_find : findM hm3 19 = 1 := by rfl
def st1 : StkM := [((12, 0), [⟨0 * 4294967296 + ((0 : Nat) : Int), 0, 5⟩])]
theorem st1_ok (v : Value) : StkOk [((12, 0), v)] st1 := by
  refine ⟨rfl, by decide, fun x hx => ?_, fun x hx => ?_⟩
  · obtain rfl : x = _ := by simpa [st1] using hx
    refine ⟨⟨by decide, fun y hy => ?_⟩, by simp⟩
    obtain rfl : y = _ := by simpa using hy
    unfold okLot
    dsimp only
    omega
  · obtain rfl : x = _ := by simpa [st1] using hx
    dsimp only
    omega
theorem live_plan {out : List (Int × LegM)} (h : PlanM st1 hm0 hm3 0 out) : ∃ (lad : Option Addr) (lc lb : Nat), out = [(12, ([⟨0, 5⟩], (lad, lc), lb))] := by
  have key : ∀ a, a ∈ out.map (·.1) ↔ a = 12 := fun a => by
    rw [h.mem]
    constructor
    · rintro ⟨⟨x, hx, rfl⟩, _⟩
      obtain rfl : x = _ := by simpa [st1] using hx
      rfl
    · rintro rfl
      exact ⟨⟨_, List.mem_singleton.2 rfl, rfl⟩, by decide, by decide, by decide⟩
  match out, h, key with
  | [], _, key => exact absurd ((key 12).2 rfl) (by simp)
  | [(a, am, ⟨lad, lc⟩, lb)], h, key =>
    obtain rfl : a = 12 := (key a).1 (by simp)
    have h2 := (h.ok _ (List.mem_singleton.2 rfl)).2.1
    have e : amOf 12 (st1.map holdOf) = [⟨0, 5⟩] := by rfl
    rw [e] at h2
    have := List.perm_singleton.1 h2
    dsimp only at this
    subst this
    exact ⟨lad, lc, lb, rfl⟩
  | (a, x) :: (b, y) :: r, h, key =>
    have ha := (key a).1 (by simp)
    have hb := (key b).1 (by simp)
    have := h.inc
    simp only [List.map_cons] at this
    have := (List.pairwise_cons.1 this).1 b (by simp)
    omega
set_option maxRecDepth 20000 in
set_option maxHeartbeats 8000000 in
theorem lives_spec  :
  Triple Tryz.prog 17 #[] [] (Unit) (fun _ => True) (fun _ => .bool true) (fun _ => []) := by
 refine Triple.of_body (args := []) Tryz.func17 rfl Tryz.ntmps17 (by simp) (fun g F => ?_)
 dsimp only [numb, List.cons_append, List.nil_append]
 refine WK.seq ?_
 refine WK.region ?_
 refine Ly y_assign ?_
 refine WL.done ?_
 refine WK.seq ?_
 refine WK.region ?_
 refine Ly (y_build (hz := by exact Tryz.zeroValue84) (hu := by exact Tryz.runUnderlying84) (hp := by exact fun w => places84 w Tryz.underlying84) (hne := by first | decide | simp)) ?_
 refine Le (e_mkSlice1 (hu := by exact Tryz.runUnderlying30) (hk := by exact Tryz.sizeOf84) (hz := by exact Tryz.zeroValue84) (hk0 := by rfl) (hb := by decide) (h1 := by rfl)) ?_
 rintro b15 -
 try dsimp only
 refine Le (e_call (by exact Tryz.call18) (t := (split_spec true (some ⟨b15, 0, none⟩) 1 1 hm0 (by decide) 10 19 1))) ?_
 rintro x16 hx16
 obtain ⟨⟨ad16, cap16⟩, rfl⟩ := Option.isSome_iff_exists.1 (hx16.2 live_splitOK)
 dsimp only
 rw [live_split]
 try dsimp only
 refine Ly y_move ?_
 refine Ly y_extract ?_
 refine Ly y_extract ?_
 refine Ly y_assign ?_
 refine Ly y_assign ?_
 refine WL.done ?_
 refine WK.seq ?_
 refine WK.region ?_
 refine Ly y_move ?_
 refine Le (e_call (by exact Tryz.call15) (t := find_spec true ad16 3 cap16 hm3 (by decide) 19)) ?_
 rintro _ -
 rw [if_pos ⟨vh_hm3, by decide, by decide⟩, live_find]
 try dsimp only
 refine Ly y_move ?_
 refine Ly y_extract ?_
 refine Ly y_extract ?_
 refine Ly y_assign ?_
 refine Ly y_assign ?_
 refine WL.done ?_
 refine WK.seq ?_
 refine WK.region ?_
 refine Ly y_move ?_
 refine Le (e_call (by exact Tryz.call19) (t := join_spec true ad16 3 cap16 hm3 (by decide) 1 0)) ?_
 rintro x26 hx26
 obtain ⟨⟨ad26, cap26⟩, rfl⟩ := Option.isSome_iff_exists.1 (hx26.2 live_joinOK)
 dsimp only
 rw [live_join]
 try dsimp only
 refine Ly y_move ?_
 refine Ly y_extract ?_
 refine Ly y_extract ?_
 refine Ly y_assign ?_
 refine Ly y_assign ?_
 refine WL.done ?_
 refine WK.seq ?_
 refine WK.region ?_
 refine Le (e_call (by exact Tryz.call38) (t := cat22_spec)) ?_
 rintro ⟨cad, ccap⟩ -
 try dsimp only
 refine Le (e_call (by exact Tryz.call37) (t := ledNew_spec true cad ccap cat22 cat22_good 0 (by decide))) ?_
 rintro ⟨q, ⟨ia, ic, sb, ta, tc, fa, fc, sa, sc, ib, gb⟩⟩ hW
 obtain ⟨e1, e2, e3, e4, e5, e6⟩ := hW
 dsimp only at e1 e2 e3 e4 e5 e6 ⊢
 subst e3 e4 e5 e6
 try dsimp only
 refine Ly y_move ?_
 refine Ly y_extract ?_
 refine Ly y_extract ?_
 refine Ly y_assign ?_
 refine Ly y_assign ?_
 refine WL.done ?_
 refine WK.sat (fun w s => Sat.mapKNew (enc := plE) (s.sel1 (A := mapO true sb [] 0) (by repeat (first | exact .here | apply Sel.there)))) ?_
 refine WK.sat (fun w s => Sat.mapKNew (enc := (fun i : Int => Value.int .i64 i)) (s.sel1 (A := mapO true ib [] 0) (by repeat (first | exact .here | apply Sel.there)))) ?_
 refine WK.sat (fun w s => Sat.mapKNew (enc := (fun i : Int => Value.int .i64 i)) (s.sel1 (A := mapO true gb [] 0) (by repeat (first | exact .here | apply Sel.there)))) ?_
 refine WK.seq ?_
 refine WK.seq ?_
 refine WK.region ?_
 refine Ly y_move ?_
 refine Ly (y_eqlPtr (hu := by exact Tryz.runUnderlying55)) ?_
 refine Ly y_move ?_
 refine Lyg y_move ?_
 refine Lyg y_neq ?_
 refine Ly y_pick_false ?_
 refine Ly y_move ?_
 refine Lyg y_move ?_
 refine Lyg y_neq ?_
 refine Ly y_pick_false ?_
 refine Ly y_move ?_
 refine Lyg y_move ?_
 refine Lyg y_neq ?_
 refine Ly y_pick_false ?_
 refine Ly y_move ?_
 refine Lyg y_move ?_
 refine Lyg y_neq ?_
 refine Ly y_pick_false ?_
 refine Ly y_move ?_
 refine Lyg y_move ?_
 refine Lyg y_neq ?_
 refine Ly y_pick_false ?_
 refine Ly y_move ?_
 refine Lyg y_move ?_
 refine Lyg (y_len (hu := by exact Tryz.runUnderlying30)) ?_
 refine Lyg y_neq ?_
 refine Ly y_pick_false ?_
 refine Ly y_move ?_
 refine Lyg y_move ?_
 refine Lyg (y_indexAddrS (hu := by exact Tryz.runUnderlying30) (hz := by exact Tryz.sizeOf84) (j := 1) (hj' := by decide) (hj := by decide)) ?_
 refine Lyg (y_loadSA (ha := by exact Tryz.isAgg84) (hm := by exact Tryz.sizeOf84) (hv := (by exact homesC_cells (show hm3[1]? = some ⟨10, 1⟩ from rfl)))) ?_
 refine Lyg (y_build (hz := by exact Tryz.zeroValue84) (hu := by exact Tryz.runUnderlying84) (hp := by exact fun w => places84 w Tryz.underlying84) (hne := by first | decide | simp)) ?_
 refine Lyg (yld_neqS2 (by rfl) (by rfl) (by exact Tryz.runUnderlying84) (by kernel_rfl) (by kernel_rfl) (by decide) (by decide) (by rfl) (by rfl) (by exact Tryz.runUnderlying3) (by exact Tryz.runUnderlying3) (by exact Tryz.isAgg3) (by exact Tryz.isAgg3)) ?_
 refine Ly y_pick_false ?_
 refine Ly y_move ?_
 refine Lyg y_move ?_
 refine Lyg (y_len (hu := by exact Tryz.runUnderlying30)) ?_
 refine Lyg y_neq ?_
 refine Ly y_pick_false ?_
 refine WL.done ?_
 refine Kcond (ht := fun h => by cases h) (hf := fun _ => ?_)
 refine WK.skip ?_
 refine WK.seq ?_
 refine WK.region ?_
 refine Ly y_move ?_
 refine Ly (y_build (hz := by exact Tryz.zeroValue59) (hu := by exact Tryz.runUnderlying59) (hp := by exact fun w => places59 w Tryz.underlying59) (hne := by first | decide | simp)) ?_
 refine Le (e_mkSlice1 (hu := by exact Tryz.runUnderlying60) (hk := by exact Tryz.sizeOf59) (hz := by exact Tryz.zeroValue59) (hk0 := by rfl) (hb := by decide) (h1 := by rfl)) ?_
 rintro b76 -
 try dsimp only
 refine Ly (y_build (hz := by exact Tryz.zeroValue62) (hu := by exact Tryz.runUnderlying62) (hp := by exact fun w => places62 w Tryz.underlying62) (hne := by first | decide | simp)) ?_
 refine WL.sat (fun w s => Sat.nilSl s true 62 7) ?_
 refine WL.sat (fun w s => Sat.nilSl s false 145 3) ?_
 refine WL.sat (fun w s => Sat.nilSl s true 141 11) ?_
 refine Le (e_call (by exact Tryz.call27) (t := (post_spec q 0 0 0 ⟨ia, ic, sb, ta, tc, none, 0, none, 0, ib, gb⟩ [] ⟨rfl, fun i hi => absurd hi (Nat.not_lt_zero _)⟩ (by decide) [] 12 5 0 [0, 0, 0, 0] 0 none 0 0 [] (by decide) (by decide) (by decide) (by decide) (by decide) rfl (by decide) (by decide) (fun x hx => by cases hx) rfl true (some ⟨b76, 0, none⟩) 1 []))) ?_
 rintro ⟨d, ⟨fa2, fc2⟩, ⟨sa2, sc2⟩, ⟨ma, mc⟩⟩ -
 try dsimp only
 refine Ly y_move ?_
 refine Ly y_extract ?_
 refine Ly y_extract ?_
 refine Ly y_assign ?_
 refine Ly y_assign ?_
 refine WL.done ?_
 refine WK.seq ?_
 refine WK.region ?_
 refine Ly y_move ?_
 refine Ly (y_build (hz := by exact Tryz.zeroValue84) (hu := by exact Tryz.runUnderlying84) (hp := by exact fun w => places84 w Tryz.underlying84) (hne := by first | decide | simp)) ?_
 refine Le (e_mkSlice1 (hu := by exact Tryz.runUnderlying30) (hk := by exact Tryz.sizeOf84) (hz := by exact Tryz.zeroValue84) (hk0 := by rfl) (hb := by decide) (h1 := by rfl)) ?_
 rintro b84 -
 try dsimp only
 refine Ly y_move ?_
 refine WL.sat (fun w s => Sat.vecShut (e := lotC) (l := [(⟨0 * 4294967296 + ((0 : Nat) : Int), 0, 5⟩ : LotM)]) rfl (Sat.slFreeze (s.sel1 (A := sl true 145 3 d.la (0 + 1) d.lc (flat lotC ([] ++ [(⟨0 * 4294967296 + ((0 : Nat) : Int), 0, 5⟩ : LotM)]))) (by repeat (first | exact .here | apply Sel.there))))) ?_
 refine WL.sat (fun w s => Sat.allCons ((Sat.allNil s).perm (.swap _ _ _))) ?_
 refine Le (e_call (by exact Tryz.call28) (t := (plan_spec 12 sortI12 (by decide) (by decide) true q 0 (0 + 1) (0 + 1) ⟨ia, ic, sb, d.ta, d.tc, fa2, fc2, sa2, sc2, ib, gb⟩ [((12, 0), Value.slice d.la (0 + 1) d.lc)] st1 (st1_ok _) (by decide) true true (some ⟨b84, 0, none⟩) ad16 1 3 1 cap16 hm0 hm3 (by decide) (by decide) 0))) ?_
 rintro x86 hx86
 obtain ⟨lad, lc, lb, oad, ocap, rfl⟩ : ∃ lad lc lb oad ocap, x86 = some ([((12, ([⟨0, 5⟩], (lad, lc), lb)) : Int × LegM)], oad, ocap) := by
   rcases x86 with _ | ⟨out, oad, ocap⟩
   · exact absurd ⟨by decide, vh_hm0, vh_hm3⟩ hx86
   · obtain ⟨lad, lc, lb, rfl⟩ := live_plan hx86.2
     exact ⟨lad, lc, lb, oad, ocap, rfl⟩
 dsimp only
 try dsimp only
 refine Ly y_move ?_
 refine Ly y_extract ?_
 refine Ly y_extract ?_
 refine Ly y_assign ?_
 refine Ly y_assign ?_
 refine WL.done ?_
 refine WK.sat (fun w s => Sat.allUncons (s.sel1 (A := allR (legR 0 hm3) [legVal ((12, ([⟨0, 5⟩], (lad, lc), lb)) : Int × LegM)] [((12, ([⟨0, 5⟩], (lad, lc), lb)) : Int × LegM)]) (by repeat (first | exact .here | apply Sel.there)))) ?_
 refine WK.openS (fun w s => Sat.exOpen (s.sel1 (A := legR 0 hm3 (legVal ((12, ([⟨0, 5⟩], (lad, lc), lb)) : Int × LegM)) ((12, ([⟨0, 5⟩], (lad, lc), lb)) : Int × LegM)) (by repeat (first | exact .here | apply Sel.there)))) ?_
 rintro _ -
 dsimp only [List.cons_append, List.nil_append]
 refine WK.sat (fun w s => Sat.unpack (s.sel1 (A := pack [sl true 75 5 (some ⟨lb, 0, none⟩) 1 1 (legC 0 12 1 lad 1 lc), sl true 78 2 lad 1 lc (flat amtC [⟨0, 5⟩])]) (by repeat (first | exact .here | apply Sel.there)))) ?_
 dsimp only [List.cons_append, List.nil_append]
 refine WK.seq ?_
 refine WK.region ?_
 refine Ly y_move ?_
 refine Ly y_eql ?_
 refine Ly y_move ?_
 refine Lyg y_move ?_
 refine Lyg y_eql ?_
 refine Ly y_pick_true ?_
 refine Ly y_move ?_
 refine Lyg y_move ?_
 refine Lyg (y_len (hu := by exact Tryz.runUnderlying63)) ?_
 refine Lyg y_eql ?_
 refine Ly y_pick_true ?_
 refine Ly y_move ?_
 refine Lyg y_move ?_
 refine Lyg (y_indexAddrS (hu := by exact Tryz.runUnderlying63) (hz := by exact Tryz.sizeOf70) (j := 0) (hj' := by first | decide | simp | omega) (hj := by first | decide | simp | omega)) ?_
 refine Lyg (y_loadS (ha := by exact Tryz.isAgg70)) ?_
 refine Lyg (y_len (hu := by exact Tryz.runUnderlying70)) ?_
 refine Lyg y_eql ?_
 refine Ly y_pick_true ?_
 refine Ly y_move ?_
 refine Lyg y_move ?_
 refine Lyg (y_indexAddrS (hu := by exact Tryz.runUnderlying63) (hz := by exact Tryz.sizeOf70) (j := 0) (hj' := by first | decide | simp | omega) (hj := by first | decide | simp | omega)) ?_
 refine Lyg (y_loadS (ha := by exact Tryz.isAgg70)) ?_
 refine Lyg (y_indexAddrS (hu := by exact Tryz.runUnderlying70) (hz := by exact Tryz.sizeOf75) (j := 0) (hj' := by first | decide | simp | omega) (hj := by first | decide | simp | omega)) ?_
 refine Lyg (y_fieldAddrS (hu := by exact Tryz.runUnderlying75) (hs := by exact Tryz.sizeOf3)) ?_
 refine Lyg (y_loadS (ha := by exact Tryz.isAgg3)) ?_
 refine Lyg y_eql ?_
 refine Ly y_pick_true ?_
 refine Ly y_move ?_
 refine Lyg y_move ?_
 refine Lyg (y_indexAddrS (hu := by exact Tryz.runUnderlying63) (hz := by exact Tryz.sizeOf70) (j := 0) (hj' := by first | decide | simp | omega) (hj := by first | decide | simp | omega)) ?_
 refine Lyg (y_loadS (ha := by exact Tryz.isAgg70)) ?_
 refine Lyg (y_indexAddrS (hu := by exact Tryz.runUnderlying70) (hz := by exact Tryz.sizeOf75) (j := 0) (hj' := by first | decide | simp | omega) (hj := by first | decide | simp | omega)) ?_
 refine Lyg (y_fieldAddrS (hu := by exact Tryz.runUnderlying75) (hs := by exact Tryz.sizeOf3)) ?_
 refine Lyg (y_loadS (ha := by exact Tryz.isAgg3)) ?_
 refine Lyg y_eql ?_
 refine Ly y_pick_true ?_
 refine Ly y_move ?_
 refine Lyg y_move ?_
 refine Lyg (y_indexAddrS (hu := by exact Tryz.runUnderlying63) (hz := by exact Tryz.sizeOf70) (j := 0) (hj' := by first | decide | simp | omega) (hj := by first | decide | simp | omega)) ?_
 refine Lyg (y_loadS (ha := by exact Tryz.isAgg70)) ?_
 refine Lyg (y_indexAddrS (hu := by exact Tryz.runUnderlying70) (hz := by exact Tryz.sizeOf75) (j := 0) (hj' := by first | decide | simp | omega) (hj := by first | decide | simp | omega)) ?_
 refine Lyg (y_fieldAddrS (hu := by exact Tryz.runUnderlying75) (hs := by exact Tryz.sizeOf73)) ?_
 refine Lyg (y_loadS (ha := by exact Tryz.isAgg73)) ?_
 refine Lyg (y_len (hu := by exact Tryz.runUnderlying73)) ?_
 refine Lyg y_eql ?_
 refine Ly y_pick_true ?_
 refine Ly y_move ?_
 refine Lyg y_move ?_
 refine Lyg (y_indexAddrS (hu := by exact Tryz.runUnderlying63) (hz := by exact Tryz.sizeOf70) (j := 0) (hj' := by first | decide | simp | omega) (hj := by first | decide | simp | omega)) ?_
 refine Lyg (y_loadS (ha := by exact Tryz.isAgg70)) ?_
 refine Lyg (y_indexAddrS (hu := by exact Tryz.runUnderlying70) (hz := by exact Tryz.sizeOf75) (j := 0) (hj' := by first | decide | simp | omega) (hj := by first | decide | simp | omega)) ?_
 refine Lyg (y_fieldAddrS (hu := by exact Tryz.runUnderlying75) (hs := by exact Tryz.sizeOf73)) ?_
 refine Lyg (y_loadS (ha := by exact Tryz.isAgg73)) ?_
 refine Lyg (y_indexAddrS (hu := by exact Tryz.runUnderlying73) (hz := by exact Tryz.sizeOf78) (j := 0) (hj' := by first | decide | simp | omega) (hj := by first | decide | simp | omega)) ?_
 refine Lyg (y_fieldAddrS (hu := by exact Tryz.runUnderlying78) (hs := by exact Tryz.sizeOf3)) ?_
 refine Lyg (y_loadS (ha := by exact Tryz.isAgg3)) ?_
 refine Lyg y_eql ?_
 refine Ly y_pick_true ?_
 refine Ly y_assign ?_
 refine WL.done ?_
 refine WK.ret ?_
 repeat (first | refine RQ.block ?_ | refine RQ.then_ ?_)
 refine RQ.body (results1 (by rfl) (by rfl)) (fun w s => ?_)
 refine ⟨(), trivial, ?_, s.toCs (by repeat (first | exact SelL.nil | exact SelL.self | apply SelL.cons | exact Sel.here | apply Sel.there | apply SelL.skip))⟩
 rfl
end Go.Proofs.YtkakfmcjiabjjaaGreatDoor
