import Derived.Test.YtkakfmcjiabjjaaGreatDoorMoveR
import Derived.Test.YtkakfmcjiabjjaaGreatDoorMovN
namespace Go.Sep
set_option linter.unusedVariables false
set_option linter.unusedSimpArgs false
set_option linter.unusedSectionVars false
set_option linter.unnecessarySimpa false
open Go
section
variable [rn : Rnd] {P : Program} {g : World} {n : Nat} {K : List (Nat × Value)} {Ps R : List HProp} {w : World} {d : Option Tmp} {T : TypeId} {pos : String} {af : Array Edge} {gd : Option (Nat × Bool)}
/-- An element of an array that is itself a slice's element. -/
theorem yld_indexAddrE {t e : TypeId} {x y : Operand} {b o r len sz : Nat} {kd : IntKind} {i : Int} (hx : ev K x = some (.pointer (some (elemA (some ⟨b, o, none⟩) r)))) (hy : ev K y = some (.int kd i)) (hu : ∀ w, Sem.run P (underlying t) w = .ok (.array len e) w) (hz : ∀ w, Sem.run P (sizeOf e) w = .ok sz w)
    (k : Nat) (hi : i = (k : Int)) (hl : k < len) {r' : Nat} (hr : r + k * sz = r') : Yld P g n ⟨d, .indexAddr t x y, T, pos, af, gd⟩ K Ps (.pointer (some (elemA (some ⟨b, o, none⟩) r'))) := by
  subst hr
  have e1 : ∀ m, elemA (some ⟨b, o, none⟩) m = ⟨b, o + m, none⟩ := fun m => by simp [elemA, Addr.add_lit]
  rw [e1] at hx
  have := yld_indexAddrA (P := P) (g := g) (n := n) (Ps := Ps) (d := d) (T := T) (pos := pos) (af := af) (gd := gd) hx hy hu hz k hi hl
  rw [e1, show o + (r + k * sz) = o + r + k * sz from by omega]
  exact this
end
/-- A piece that lies behind others is still there, whatever lies ahead. -/
theorem Sel.pre {α : Type} {A : α} {l r : List α} (xs : List α) (s : Sel A l r) : Sel A (xs ++ l) (xs ++ r) := by
  induction xs with
  | nil => exact s
  | cons x t ih => exact Sel.there ih
end Go.Sep
namespace Go.Proofs.YtkakfmcjiabjjaaGreatDoor
set_option linter.unusedVariables false
set_option linter.unusedSimpArgs false
set_option linter.unusedSectionVars false
set_option linter.unnecessarySimpa false
open Go Go.Sep
attribute [local irreducible] row sl mapO held exL allR byt mapI slr mapK rangeK vec pack
def prC (p : Int × Int) : List Value := [.int .i64 p.1, .int .i64 p.2]
theorem prC_len : ∀ p, (prC p).length = 2 := fun _ => rfl
set_option maxRecDepth 20000 in
set_option maxHeartbeats 8000000 in
theorem splitsLaw_spec (ad : Option Addr) (len cap : Nat) (l : List Int) (hl : ∀ n ∈ l, -9223372036854775808 ≤ n ∧ n ≤ 9223372036854775807) (frm to shard into : Int) (bad : Bool) (at_ : Int) (h_frm : -9223372036854775808 ≤ frm ∧ frm ≤ 9223372036854775807) (h_to : -9223372036854775808 ≤ to ∧ to ≤ 9223372036854775807) (h_shard : -9223372036854775808 ≤ shard ∧ shard ≤ 9223372036854775807) (h_into : -9223372036854775808 ≤ into ∧ into ≤ 9223372036854775807) (h_at_ : -9223372036854775808 ≤ at_ ∧ at_ ≤ 9223372036854775807) :
  Triple Tryz.prog 4 #[.slice ad len cap, .int .i64 frm, .int .i64 to, .int .i64 shard, .int .i64 into, .bool bad, .int .i64 at_] [slr 1 ad len (l.map (Value.int .i64))] (Unit) (fun _ => True) (fun _ => .bool true) (fun _ => [slr 1 ad len (l.map (Value.int .i64))]) := by
 refine Triple.of_body (args := [.slice ad len cap, .int .i64 frm, .int .i64 to, .int .i64 shard, .int .i64 into, .bool bad, .int .i64 at_]) Tryz.func4 rfl Tryz.ntmps4 (by simp) (fun g F => ?_)
 dsimp only [numb, List.cons_append, List.nil_append]
 refine WK.seq ?_
 refine WK.region ?_
 refine Ly y_assign ?_
 refine WL.done ?_
 refine WK.seq ?_
 refine WK.region ?_
 refine Ly y_move ?_
 refine Le (e_call (by exact Tryz.call9) (t := refHomesR_spec 4 ad len cap l 0 hl (by omega) (by decide))) ?_
 rintro ⟨gad, gcap⟩ -
 dsimp only
 obtain ⟨G, hG⟩ : ∃ G, refHomesM 4 l 0 = G := ⟨_, rfl⟩
 have hGl := refHomes_len 4 l 0
 rw [hG] at hGl ⊢
 try dsimp only
 refine Ly y_assign ?_
 refine WL.done ?_
 refine WK.seq ?_
 refine WK.seq ?_
 refine WK.region ?_
 refine Ly y_move ?_
 refine WL.done ?_
 refine WK.cut (ι := List HomeM × Option Addr × Nat) (fun x => x.1.length ≤ 7) (fun x => [(1, .int .i64 frm), (2, .int .i64 to), (3, .int .i64 shard), (4, .int .i64 into), (15, .slice x.2.1 x.1.length x.2.2)]) (fun x => sl true 83 2 x.2.1 x.1.length x.2.2 (homesC x.1) :: slr 1 ad len (l.map (Value.int .i64)) :: F) ?_ ?_
 ·
  rintro ⟨X, xad, xcap⟩ hX
  dsimp only at hX ⊢
  refine WK.seq ?_
  refine WK.region ?_
  refine Ly y_move ?_
  refine Ly y_move ?_
  refine Ly (y_buildA (hz := by exact Tryz.zeroValue38) (hu := by exact Tryz.runUnderlying38) (hs := by exact Tryz.sizeOf3) (hne := by rfl)) ?_
  refine Ly y_move ?_
  refine Le (e_call (by exact Tryz.call10) (t := around_spec frm 20 h_frm (by omega))) ?_
  rintro _ -
  have h40 := aroundM_range frm 20 (by omega)
  try dsimp only
  refine Ly y_add ?_
  refine Ly y_move ?_
  refine Le (e_call (by exact Tryz.call10) (t := around_spec to 30 h_to (by omega))) ?_
  rintro _ -
  have h43 := aroundM_range to 30 (by omega)
  try dsimp only
  refine Ly y_add ?_
  refine Ly (y_buildA (hz := by exact Tryz.zeroValue38) (hu := by exact Tryz.runUnderlying38) (hs := by exact Tryz.sizeOf3) (hne := by rfl)) ?_
  refine Ly y_move ?_
  refine Le (e_call (by exact Tryz.call10) (t := around_spec frm 20 h_frm (by omega))) ?_
  rintro _ -
  try dsimp only
  refine Ly y_add ?_
  refine Ly (y_buildA (hz := by exact Tryz.zeroValue38) (hu := by exact Tryz.runUnderlying38) (hs := by exact Tryz.sizeOf3) (hne := by rfl)) ?_
  refine Le (e_mkSliceN (by exact Tryz.runUnderlying39) (by exact Tryz.sizeOf38) (by exact Tryz.zeroValue38) (hb := by decide) (hk0 := by rfl) (hl0 := by rfl) (h1 := by rfl)) ?_
  rintro b50 -
  try dsimp only [List.cons_append, List.nil_append]
  try dsimp only
  refine Ly y_assign ?_
  refine WL.done ?_
  refine WK.seq ?_
  refine WK.region ?_
  refine Ly y_move ?_
  refine Ly y_move ?_
  refine Ly (y_buildA (hz := by exact Tryz.zeroValue38) (hu := by exact Tryz.runUnderlying38) (hs := by exact Tryz.sizeOf3) (hne := by rfl)) ?_
  refine Ly y_move ?_
  refine Le (e_call (by exact Tryz.call10) (t := around_spec shard 4 h_shard (by omega))) ?_
  rintro _ -
  try dsimp only
  refine Ly y_move ?_
  refine Le (e_call (by exact Tryz.call10) (t := around_spec into 4 h_into (by omega))) ?_
  rintro _ -
  try dsimp only
  refine Ly (y_buildA (hz := by exact Tryz.zeroValue38) (hu := by exact Tryz.runUnderlying38) (hs := by exact Tryz.sizeOf3) (hne := by rfl)) ?_
  refine Le (e_mkSliceN (by exact Tryz.runUnderlying39) (by exact Tryz.sizeOf38) (by exact Tryz.zeroValue38) (hb := by decide) (hk0 := by rfl) (hl0 := by rfl) (h1 := by rfl)) ?_
  rintro b59 -
  try dsimp only [List.cons_append, List.nil_append]
  try dsimp only
  refine Ly y_assign ?_
  refine WL.done ?_
  refine WK.seq ?_
  refine WK.seq ?_
  refine WK.region ?_
  refine Ly y_assign ?_
  refine WL.done ?_
  refine WK.block ?_
  refine Kloop (ι := Nat) (fun i => i ≤ 3) (fun i => [(15, .slice xad X.length xcap), (16, .slice (some ⟨b50, 0, none⟩) 3 3), (17, .slice (some ⟨b59, 0, none⟩) 2 2), (18, .int .i64 (i : Int))]) (fun _ => sl true 83 2 xad X.length xcap (homesC X) :: sl true 38 2 (some ⟨b50, 0, none⟩) 3 3 (flat prC [(frm, to), (1 + aroundM frm 20, 1 + aroundM to 30), (1 + aroundM frm 20, 1073741824)]) :: sl true 38 2 (some ⟨b59, 0, none⟩) 2 2 (flat prC [(shard, into), (aroundM shard 4, aroundM into 4)]) :: slr 1 ad len (l.map (Value.int .i64)) :: F) (fun i => 3 - i) (0) (Nat.zero_le _) (round := ?_)
  rintro i hi N hN
  refine WK.seq ?_
  refine WK.seq ?_
  refine WK.region ?_
  refine Ly y_move ?_
  refine Ly y_lss ?_
  refine WL.done ?_
  refine Kcond (ht := fun hc61 => ?_) (hf := fun hc61 => ?_)
  ·
   have hc61 := of_decide_eq_true hc61
   obtain ⟨rg, hrg⟩ : ∃ x, [(frm, to), (1 + aroundM frm 20, 1 + aroundM to 30), (1 + aroundM frm 20, 1073741824)][i]? = some x := ⟨_, List.getElem?_eq_getElem (by simp; omega)⟩
   refine WK.skip ?_
   refine WK.seq ?_
   refine WK.block ?_
   refine WK.seq ?_
   refine WK.region ?_
   refine Ly y_assign ?_
   refine WL.done ?_
   refine WK.block ?_
   refine Kloop (ι := Nat) (fun k => k ≤ 2) (fun k => [(15, .slice xad X.length xcap), (16, .slice (some ⟨b50, 0, none⟩) 3 3), (17, .slice (some ⟨b59, 0, none⟩) 2 2), (18, .int .i64 (i : Int)), (19, .int .i64 (k : Int))]) (fun _ => sl true 83 2 xad X.length xcap (homesC X) :: sl true 38 2 (some ⟨b50, 0, none⟩) 3 3 (flat prC [(frm, to), (1 + aroundM frm 20, 1 + aroundM to 30), (1 + aroundM frm 20, 1073741824)]) :: sl true 38 2 (some ⟨b59, 0, none⟩) 2 2 (flat prC [(shard, into), (aroundM shard 4, aroundM into 4)]) :: slr 1 ad len (l.map (Value.int .i64)) :: F) (fun k => 2 - k) (0) (Nat.zero_le _) (round := ?_)
   rintro k hk N2 hN2
   refine WK.seq ?_
   refine WK.seq ?_
   refine WK.region ?_
   refine Ly y_move ?_
   refine Ly y_lss ?_
   refine WL.done ?_
   refine Kcond (ht := fun hc65 => ?_) (hf := fun hc65 => ?_)
   ·
    have hc65 := of_decide_eq_true hc65
    obtain ⟨sg, hsg⟩ : ∃ x, [(shard, into), (aroundM shard 4, aroundM into 4)][k]? = some x := ⟨_, List.getElem?_eq_getElem (by simp; omega)⟩
    refine WK.skip ?_
    refine WK.seq ?_
    refine WK.block ?_
    refine WK.seq ?_
    refine WK.region ?_
    refine Ly y_move ?_
    refine Ly y_move ?_
    refine Ly (y_indexAddrS (hu := by exact Tryz.runUnderlying39) (hz := by exact Tryz.sizeOf38) (j := k) (hi := by first | rfl | omega) (hj' := by omega) (hj := by omega)) ?_
    refine Ly (yld_indexAddrE (by rfl) (by rfl) (by exact Tryz.runUnderlying38) (by exact Tryz.sizeOf3) (0) (by first | rfl | omega) (by first | decide | omega) (by rfl)) ?_
    refine Ly (y_loadS (ha := by exact Tryz.isAgg3) (hv := by exact flat_get prC_len hsg (j := 0) rfl rfl)) ?_
    refine Ly y_assign ?_
    refine WL.done ?_
    refine WK.seq ?_
    refine WK.region ?_
    refine Ly y_move ?_
    refine Ly y_move ?_
    refine Ly (y_indexAddrS (hu := by exact Tryz.runUnderlying39) (hz := by exact Tryz.sizeOf38) (j := k) (hi := by first | rfl | omega) (hj' := by omega) (hj := by omega)) ?_
    refine Ly (yld_indexAddrE (by rfl) (by rfl) (by exact Tryz.runUnderlying38) (by exact Tryz.sizeOf3) (1) (by first | rfl | omega) (by first | decide | omega) (by rfl)) ?_
    refine Ly (y_loadS (ha := by exact Tryz.isAgg3) (hv := by exact flat_get prC_len hsg (j := 1) rfl rfl)) ?_
    refine Ly y_assign ?_
    refine WL.done ?_
    refine WK.seq ?_
    by_cases hsp : SplitOK X rg.1 rg.2 sg.1
    ·
     refine Kdr (l := [(0, 0), (2, 0), (3, 0), (4, 0), (5, 0), (6, 0), (7, 0), (8, 0), (9, 0), (10, 0), (11, 0), (12, 0), (1, 1), (13, 1), (14, 0), (15, 0), (16, 0), (17, 0), (18, 0)]) (Cs := [sl true 38 2 (some ⟨b50, 0, none⟩) 3 3 (flat prC [(frm, to), (1 + aroundM frm 20, 1 + aroundM to 30), (1 + aroundM frm 20, 1073741824)])]) (h := ?_)
     refine Oy (y := y_move) (h := ?_)
     refine Oy (y := y_move) (h := ?_)
     refine Oy (y := y_move) (h := ?_)
     refine Oy (y := y_indexAddrS (hu := by exact Tryz.runUnderlying39) (hz := by exact Tryz.sizeOf38) (j := i) (hi := by first | rfl | omega) (hj' := by omega) (hj := by omega)) (h := ?_)
     refine Oy (y := yld_indexAddrE (by rfl) (by rfl) (by exact Tryz.runUnderlying38) (by exact Tryz.sizeOf3) (0) (by first | rfl | omega) (by first | decide | omega) (by rfl)) (h := ?_)
     refine Oy (y := y_loadS (ha := by exact Tryz.isAgg3) (hv := by exact flat_get prC_len hrg (j := 0) rfl rfl)) (h := ?_)
     refine Oy (y := y_move) (h := ?_)
     refine Oy (y := y_move) (h := ?_)
     refine Oy (y := y_indexAddrS (hu := by exact Tryz.runUnderlying39) (hz := by exact Tryz.sizeOf38) (j := i) (hi := by first | rfl | omega) (hj' := by omega) (hj := by omega)) (h := ?_)
     refine Oy (y := yld_indexAddrE (by rfl) (by rfl) (by exact Tryz.runUnderlying38) (by exact Tryz.sizeOf3) (1) (by first | rfl | omega) (by first | decide | omega) (by rfl)) (h := ?_)
     refine Oy (y := y_loadS (ha := by exact Tryz.isAgg3) (hv := by exact flat_get prC_len hrg (j := 1) rfl rfl)) (h := ?_)
     refine Oy (y := y_move) (h := ?_)
     refine Oe (e := e_call (by exact Tryz.call13) (t := homes_spec true xad X.length xcap X (by omega))) (h := ?_)
     rintro ⟨m1ad, m1cap⟩ -
     try dsimp only
     refine Oe (e := e_call (by exact Tryz.call18) (t := split_spec true m1ad X.length m1cap X (by omega) rg.1 rg.2 sg.1)) (hC := fun x => SelL.cons (Sel.pre _ (Sel.there Sel.here)) SelL.nil) (h := ?_)
     rintro x92 hx92
     obtain ⟨⟨sad, scap⟩, rfl⟩ := Option.isSome_iff_exists.1 (hx92.2 hsp)
     dsimp only
     try dsimp only
     refine Oy (y := y_move) (h := ?_)
     refine Oy (y := y_extract) (h := ?_)
     refine Oy (y := y_extract) (h := ?_)
     refine Oy (y := y_assign) (h := ?_)
     refine Oy (y := y_assign) (h := ?_)
     refine WO.done ?_
     refine WK.seq ?_
     by_cases hjn : JoinOK X sg.1 sg.2
     ·
      refine WK.region ?_
      refine Ly y_move ?_
      refine Le (e_call (by exact Tryz.call13) (t := homes_spec true xad X.length xcap X (by omega))) ?_
      rintro ⟨m2ad, m2cap⟩ -
      try dsimp only
      refine Ly y_move ?_
      refine Ly y_move ?_
      refine Le (e_call (by exact Tryz.call19) (t := join_spec true m2ad X.length m2cap X (by omega) sg.1 sg.2)) ?_
      rintro x100 hx100
      obtain ⟨⟨jad, jcap⟩, rfl⟩ := Option.isSome_iff_exists.1 (hx100.2 hjn)
      dsimp only
      try dsimp only
      refine Ly y_move ?_
      refine Ly y_extract ?_
      refine Ly y_extract ?_
      refine Ly y_assign ?_
      refine Ly y_assign ?_
      refine WL.done ?_
      refine WK.seq ?_
      refine WK.cut (ι := Bool) (fun b => b = true ↔ (VH 12 X ∧ 0 ≤ sg.1 ∧ sg.1 < 12)) (fun b => [(26, .bool b), (15, .slice xad X.length xcap), (16, .slice (some ⟨b50, 0, none⟩) 3 3), (17, .slice (some ⟨b59, 0, none⟩) 2 2), (18, .int .i64 (i : Int)), (19, .int .i64 (k : Int)), (20, .int .i64 sg.1), (21, .int .i64 sg.2), (22, .slice sad (changedM (splitRw rg.1 rg.2 sg.1) X).length scap), (23, .int .i64 0), (24, .slice jad (changedM (joinRw sg.1 sg.2) X).length jcap), (25, .int .i64 0)]) (fun _ => sl true 84 2 jad (changedM (joinRw sg.1 sg.2) X).length jcap (homesC (changedM (joinRw sg.1 sg.2) X)) :: sl true 84 2 sad (changedM (splitRw rg.1 rg.2 sg.1) X).length scap (homesC (changedM (splitRw rg.1 rg.2 sg.1) X)) :: sl true 83 2 xad X.length xcap (homesC X) :: sl true 38 2 (some ⟨b50, 0, none⟩) 3 3 (flat prC [(frm, to), (1 + aroundM frm 20, 1 + aroundM to 30), (1 + aroundM frm 20, 1073741824)]) :: sl true 38 2 (some ⟨b59, 0, none⟩) 2 2 (flat prC [(shard, into), (aroundM shard 4, aroundM into 4)]) :: slr 1 ad len (l.map (Value.int .i64)) :: F) ?_ ?_
      ·
       intro b26 hb26
       refine WK.seq ?_
       refine WK.cut (ι := Bool) (fun b => b = true ↔ (SplitOK X rg.1 rg.2 sg.1)) (fun b => [(27, .bool b), (15, .slice xad X.length xcap), (16, .slice (some ⟨b50, 0, none⟩) 3 3), (17, .slice (some ⟨b59, 0, none⟩) 2 2), (18, .int .i64 (i : Int)), (19, .int .i64 (k : Int)), (20, .int .i64 sg.1), (21, .int .i64 sg.2), (22, .slice sad (changedM (splitRw rg.1 rg.2 sg.1) X).length scap), (23, .int .i64 0), (24, .slice jad (changedM (joinRw sg.1 sg.2) X).length jcap), (25, .int .i64 0), (26, .bool b26)]) (fun _ => sl true 84 2 jad (changedM (joinRw sg.1 sg.2) X).length jcap (homesC (changedM (joinRw sg.1 sg.2) X)) :: sl true 84 2 sad (changedM (splitRw rg.1 rg.2 sg.1) X).length scap (homesC (changedM (splitRw rg.1 rg.2 sg.1) X)) :: sl true 83 2 xad X.length xcap (homesC X) :: sl true 38 2 (some ⟨b50, 0, none⟩) 3 3 (flat prC [(frm, to), (1 + aroundM frm 20, 1 + aroundM to 30), (1 + aroundM frm 20, 1073741824)]) :: sl true 38 2 (some ⟨b59, 0, none⟩) 2 2 (flat prC [(shard, into), (aroundM shard 4, aroundM into 4)]) :: slr 1 ad len (l.map (Value.int .i64)) :: F) ?_ ?_
       ·
        intro b27 hb27
        obtain rfl : b27 = true := hb27.2 hsp
        refine WK.seq ?_
        refine WK.cut (ι := Bool) (fun b => b = true ↔ (JoinOK X sg.1 sg.2)) (fun b => [(28, .bool b), (15, .slice xad X.length xcap), (16, .slice (some ⟨b50, 0, none⟩) 3 3), (17, .slice (some ⟨b59, 0, none⟩) 2 2), (18, .int .i64 (i : Int)), (19, .int .i64 (k : Int)), (20, .int .i64 sg.1), (21, .int .i64 sg.2), (22, .slice sad (changedM (splitRw rg.1 rg.2 sg.1) X).length scap), (23, .int .i64 0), (24, .slice jad (changedM (joinRw sg.1 sg.2) X).length jcap), (25, .int .i64 0), (27, .bool true)]) (fun _ => sl true 84 2 jad (changedM (joinRw sg.1 sg.2) X).length jcap (homesC (changedM (joinRw sg.1 sg.2) X)) :: sl true 84 2 sad (changedM (splitRw rg.1 rg.2 sg.1) X).length scap (homesC (changedM (splitRw rg.1 rg.2 sg.1) X)) :: sl true 83 2 xad X.length xcap (homesC X) :: sl true 38 2 (some ⟨b50, 0, none⟩) 3 3 (flat prC [(frm, to), (1 + aroundM frm 20, 1 + aroundM to 30), (1 + aroundM frm 20, 1073741824)]) :: sl true 38 2 (some ⟨b59, 0, none⟩) 2 2 (flat prC [(shard, into), (aroundM shard 4, aroundM into 4)]) :: slr 1 ad len (l.map (Value.int .i64)) :: F) ?_ ?_
        ·
         intro b28 hb28
         obtain rfl : b28 = true := hb28.2 hjn
         refine WK.seq ?_
         refine WK.seq ?_
         refine WK.region ?_
         refine Ly y_move ?_
         refine Ly y_move ?_
         refine Ly y_eql ?_
         refine Ly (y_boolNeq (hu := by exact Tryz.runUnderlying4)) ?_
         refine Ly y_move ?_
         refine Lyg y_move ?_
         refine Lyg y_not ?_
         refine Lyg y_move ?_
         refine Lz ?_
         refine Lz ?_
         refine Lz ?_
         refine Lzu ?_
         refine Lzu ?_
         refine Lzu ?_
         refine Lz ?_
         refine Lyg y_pick_false ?_
         refine Ly y_pick_false ?_
         refine Ly y_move ?_
         refine Lyg y_move ?_
         refine Lyg y_move ?_
         refine Lyg y_eql ?_
         refine Lyg (y_boolNeq (hu := by exact Tryz.runUnderlying4)) ?_
         refine Ly y_pick_false ?_
         refine Ly y_move ?_
         refine Lyg y_move ?_
         refine Lyg y_not ?_
         refine Lyg y_move ?_
         refine Lz ?_
         refine Lz ?_
         refine Lz ?_
         refine Lzu ?_
         refine Lzu ?_
         refine Lzu ?_
         refine Lz ?_
         refine Lyg y_pick_false ?_
         refine Ly y_pick_false ?_
         refine WL.done ?_
         refine Kcond (ht := fun h => by cases h) (hf := fun _ => ?_)
         refine WK.skip ?_
         refine WK.seq ?_
         refine Kdr (l := [(0, 0), (1, 0), (2, 0), (3, 0), (4, 0), (5, 0), (6, 0), (7, 0), (8, 0), (9, 0), (10, 0), (11, 0), (12, 0), (13, 0), (14, 0), (15, 1), (16, 1), (17, 0), (18, 0), (19, 0), (20, 0), (21, 0), (22, 0), (23, 0), (24, 0), (25, 0), (26, 1), (27, 1), (28, 0), (29, 0), (30, 0)]) (Cs := [sl true 38 2 (some ⟨b50, 0, none⟩) 3 3 (flat prC [(frm, to), (1 + aroundM frm 20, 1 + aroundM to 30), (1 + aroundM frm 20, 1073741824)])]) (h := ?_)
         refine Oy (y := y_move) (h := ?_)
         refine Oy (y := y_move) (h := ?_)
         refine Oyg (y := y_move) (h := ?_)
         refine Oyg (y := y_move) (h := ?_)
         refine Oyg (y := y_move) (h := ?_)
         refine Oyg (y := y_move) (h := ?_)
         refine Oyg (y := y_indexAddrS (hu := by exact Tryz.runUnderlying39) (hz := by exact Tryz.sizeOf38) (j := i) (hi := by first | rfl | omega) (hj' := by omega) (hj := by omega)) (h := ?_)
         refine Oyg (y := yld_indexAddrE (by rfl) (by rfl) (by exact Tryz.runUnderlying38) (by exact Tryz.sizeOf3) (0) (by first | rfl | omega) (by first | decide | omega) (by rfl)) (h := ?_)
         refine Oyg (y := y_loadS (ha := by exact Tryz.isAgg3) (hv := by exact flat_get prC_len hrg (j := 0) rfl rfl)) (h := ?_)
         refine Oyg (y := y_move) (h := ?_)
         refine Oyg (y := y_move) (h := ?_)
         refine Oyg (y := y_indexAddrS (hu := by exact Tryz.runUnderlying39) (hz := by exact Tryz.sizeOf38) (j := i) (hi := by first | rfl | omega) (hj' := by omega) (hj := by omega)) (h := ?_)
         refine Oyg (y := yld_indexAddrE (by rfl) (by rfl) (by exact Tryz.runUnderlying38) (by exact Tryz.sizeOf3) (1) (by first | rfl | omega) (by first | decide | omega) (by rfl)) (h := ?_)
         refine Oyg (y := y_loadS (ha := by exact Tryz.isAgg3) (hv := by exact flat_get prC_len hrg (j := 1) rfl rfl)) (h := ?_)
         refine Oyg (y := y_move) (h := ?_)
         refine Oeg (e := (e_call (by exact Tryz.call21) (t := (refSplit_spec true xad X.length xcap X (by omega) rg.1 rg.2 sg.1 ⟨hsp.2.2.2.2, by have h1 := hsp.2.2.1; have h2 := hsp.2.2.2.1; omega⟩)))) (h := ?_)
         rintro ⟨rad, rcap⟩ -
         try dsimp only
         refine Oeg (e := e_call (by exact Tryz.call20) (t := same_spec true true sad rad _ scap _ rcap (changedM (splitRw rg.1 rg.2 sg.1) X) (refSplitM X rg.1 rg.2 sg.1) (by have := split_len rg.1 rg.2 sg.1 X; omega))) (h := ?_)
         rintro _ -
         rw [decide_eq_true (split_eq hsp)]
         try dsimp only
         refine Oyg (y := y_not) (h := ?_)
         refine Oy (y := y_pick_true) (h := ?_)
         refine Oy (y := y_move) (h := ?_)
         refine Oyg (y := y_move) (h := ?_)
         refine Oyg (y := y_move) (h := ?_)
         refine Oyg (y := y_move) (h := ?_)
         refine Oyg (y := y_move) (h := ?_)
         refine Oyg (y := y_move) (h := ?_)
         refine Oyg (y := y_move) (h := ?_)
         refine Oeg (e := e_call (by exact Tryz.call22) (t := refJoin_spec true xad X.length xcap X (by omega) sg.1 sg.2)) (h := ?_)
         rintro ⟨rad2, rcap2⟩ -
         try dsimp only
         refine Oeg (e := e_call (by exact Tryz.call20) (t := same_spec true true jad rad2 _ jcap _ rcap2 (changedM (joinRw sg.1 sg.2) X) (refJoinM X sg.1 sg.2) (by have := join_len sg.1 sg.2 X; omega))) (h := ?_)
         rintro _ -
         rw [decide_eq_true (join_eq X sg.1 sg.2)]
         try dsimp only
         refine Oyg (y := y_not) (h := ?_)
         refine Oyg (y := y_pick_true) (h := ?_)
         refine Oy (y := y_pick_false) (h := ?_)
         refine WO.done ?_
         refine Kcond (ht := fun h => by cases h) (hf := fun _ => ?_)
         refine WK.skip ?_
         refine WK.endBlock ?_
         refine WK.region ?_
         refine Ly y_move ?_
         refine Ly y_add ?_
         refine Ly y_assign ?_
         refine WL.done ?_
         exact Knext hN2 (k + 1) (by omega) (by omega)
        ·
         intro JP28
         refine WK.region ?_
         refine Ly y_move ?_
         refine Ly y_move ?_
         refine WL.split (d := 144) (by rfl) (fun hc144 => ?_) (fun hc144 => ?_)
         ·
          have hc144 := hb26.1 hc144
          refine Lyg y_move ?_
          refine Lyg y_geq ?_
          refine Ly y_pick_true ?_
          refine Ly y_move ?_
          refine WL.split (d := 148) (by rfl) (fun hc148 => ?_) (fun hc148 => ?_)
          ·
           have hc148 := of_decide_eq_true hc148
           refine Lyg y_move ?_
           refine Lyg y_lss ?_
           refine Ly y_pick_true ?_
           refine Ly y_assign ?_
           refine WL.done ?_
           refine Kgoto JP28 _ ?_
           exact ⟨fun h => ⟨hc144.1, hc144.2, hc148, of_decide_eq_true h⟩, fun h => decide_eq_true h.2.2.2⟩
          ·
           have hc148 := of_decide_eq_false hc148
           refine Lz ?_
           refine Lz ?_
           refine Ly y_pick_false ?_
           refine Ly y_assign ?_
           refine WL.done ?_
           refine Kgoto JP28 false ?_
           exact ⟨fun h => (by cases h), fun h => absurd h.2.2.1 hc148⟩
         ·
          have hc144 := mt hb26.2 (by rw [hc144]; simp)
          refine Lz ?_
          refine Lz ?_
          refine Ly y_pick_false ?_
          refine Ly y_move ?_
          refine Lz ?_
          refine Lz ?_
          refine Ly y_pick_false ?_
          refine Ly y_assign ?_
          refine WL.done ?_
          refine Kgoto JP28 false ?_
          exact ⟨fun h => (by cases h), fun h => absurd ⟨h.1, h.2.1.1, h.2.1.2⟩ hc144⟩
       ·
        intro JP27
        refine KdrQ (l := [(0, 0), (1, 0), (2, 0), (3, 0), (4, 0), (5, 0), (6, 0), (7, 0), (8, 0), (9, 0), (10, 0), (11, 0), (12, 0), (13, 0), (14, 0), (15, 0), (16, 0), (17, 0), (18, 0), (19, 0), (20, 0), (21, 0), (22, 0), (23, 0), (24, 0), (25, 0), (26, 0), (27, 0), (28, 0), (29, 0), (30, 0)]) (h := ?_)
        refine Oy (y := y_move) (h := ?_)
        refine Oy (y := y_move) (h := ?_)
        refine WO.split (d := 114) (by rfl) (fun hc114 => ?_) (fun hc114 => ?_)
        ·
         have hc114 := hb26.1 hc114
         refine Oyg (y := y_move) (h := ?_)
         refine Oyg (y := y_move) (h := ?_)
         refine Oyg (y := y_indexAddrS (hu := by exact Tryz.runUnderlying39) (hz := by exact Tryz.sizeOf38) (j := i) (hi := by first | rfl | omega) (hj' := by omega) (hj := by omega)) (h := ?_)
         refine Oyg (y := yld_indexAddrE (by rfl) (by rfl) (by exact Tryz.runUnderlying38) (by exact Tryz.sizeOf3) (0) (by first | rfl | omega) (by first | decide | omega) (by rfl)) (h := ?_)
         refine Oyg (y := y_loadS (ha := by exact Tryz.isAgg3) (hv := by exact flat_get prC_len hrg (j := 0) rfl rfl)) (h := ?_)
         refine Oyg (y := y_geq) (h := ?_)
         refine Oy (y := y_pick_true) (h := ?_)
         refine Oy (y := y_move) (h := ?_)
         refine WO.split (d := 122) (by rfl) (fun hc122 => ?_) (fun hc122 => ?_)
         ·
          have hc122 := of_decide_eq_true hc122
          refine Oyg (y := y_move) (h := ?_)
          refine Oyg (y := y_move) (h := ?_)
          refine Oyg (y := y_indexAddrS (hu := by exact Tryz.runUnderlying39) (hz := by exact Tryz.sizeOf38) (j := i) (hi := by first | rfl | omega) (hj' := by omega) (hj := by omega)) (h := ?_)
          refine Oyg (y := yld_indexAddrE (by rfl) (by rfl) (by exact Tryz.runUnderlying38) (by exact Tryz.sizeOf3) (1) (by first | rfl | omega) (by first | decide | omega) (by rfl)) (h := ?_)
          refine Oyg (y := y_loadS (ha := by exact Tryz.isAgg3) (hv := by exact flat_get prC_len hrg (j := 1) rfl rfl)) (h := ?_)
          refine Oyg (y := y_move) (h := ?_)
          refine Oyg (y := y_move) (h := ?_)
          refine Oyg (y := y_indexAddrS (hu := by exact Tryz.runUnderlying39) (hz := by exact Tryz.sizeOf38) (j := i) (hi := by first | rfl | omega) (hj' := by omega) (hj := by omega)) (h := ?_)
          refine Oyg (y := yld_indexAddrE (by rfl) (by rfl) (by exact Tryz.runUnderlying38) (by exact Tryz.sizeOf3) (0) (by first | rfl | omega) (by first | decide | omega) (by rfl)) (h := ?_)
          refine Oyg (y := y_loadS (ha := by exact Tryz.isAgg3) (hv := by exact flat_get prC_len hrg (j := 0) rfl rfl)) (h := ?_)
          refine Oyg (y := y_geq) (h := ?_)
          refine Oy (y := y_pick_true) (h := ?_)
          refine Oy (y := y_move) (h := ?_)
          refine WO.split (d := 135) (by rfl) (fun hc135 => ?_) (fun hc135 => ?_)
          ·
           have hc135 := of_decide_eq_true hc135
           refine Oyg (y := y_move) (h := ?_)
           refine Oyg (y := y_move) (h := ?_)
           refine Oyg (y := y_indexAddrS (hu := by exact Tryz.runUnderlying39) (hz := by exact Tryz.sizeOf38) (j := i) (hi := by first | rfl | omega) (hj' := by omega) (hj := by omega)) (h := ?_)
           refine Oyg (y := yld_indexAddrE (by rfl) (by rfl) (by exact Tryz.runUnderlying38) (by exact Tryz.sizeOf3) (1) (by first | rfl | omega) (by first | decide | omega) (by rfl)) (h := ?_)
           refine Oyg (y := y_loadS (ha := by exact Tryz.isAgg3) (hv := by exact flat_get prC_len hrg (j := 1) rfl rfl)) (h := ?_)
           refine Oyg (y := y_leq) (h := ?_)
           refine Oy (y := y_pick_true) (h := ?_)
           refine Oy (y := y_assign) (h := ?_)
           refine WO.done ?_
           refine Kgoto JP27 _ ?_
           exact ⟨fun h => ⟨hc114.1, hc114.2, hc122, hc135, of_decide_eq_true h⟩, fun h => decide_eq_true h.2.2.2.2⟩
          ·
           have hc135 := of_decide_eq_false hc135
           refine Oz (h := ?_)
           refine Oz (h := ?_)
           refine Oz (h := ?_)
           refine Oz (h := ?_)
           refine Oz (h := ?_)
           refine Oz (h := ?_)
           refine Oy (y := y_pick_false) (h := ?_)
           refine Oy (y := y_assign) (h := ?_)
           refine WO.done ?_
           refine Kgoto JP27 false ?_
           exact ⟨fun h => (by cases h), fun h => absurd h.2.2.2.1 hc135⟩
         ·
          have hc122 := of_decide_eq_false hc122
          refine Oz (h := ?_)
          refine Oz (h := ?_)
          refine Oz (h := ?_)
          refine Oz (h := ?_)
          refine Oz (h := ?_)
          refine Oz (h := ?_)
          refine Oz (h := ?_)
          refine Oz (h := ?_)
          refine Oz (h := ?_)
          refine Oz (h := ?_)
          refine Oz (h := ?_)
          refine Oy (y := y_pick_false) (h := ?_)
          refine Oy (y := y_move) (h := ?_)
          refine Oz (h := ?_)
          refine Oz (h := ?_)
          refine Oz (h := ?_)
          refine Oz (h := ?_)
          refine Oz (h := ?_)
          refine Oz (h := ?_)
          refine Oy (y := y_pick_false) (h := ?_)
          refine Oy (y := y_assign) (h := ?_)
          refine WO.done ?_
          refine Kgoto JP27 false ?_
          exact ⟨fun h => (by cases h), fun h => absurd h.2.2.1 hc122⟩
        ·
         have hc114 := mt hb26.2 (by rw [hc114]; simp)
         refine Oz (h := ?_)
         refine Oz (h := ?_)
         refine Oz (h := ?_)
         refine Oz (h := ?_)
         refine Oz (h := ?_)
         refine Oz (h := ?_)
         refine Oy (y := y_pick_false) (h := ?_)
         refine Oy (y := y_move) (h := ?_)
         refine Oz (h := ?_)
         refine Oz (h := ?_)
         refine Oz (h := ?_)
         refine Oz (h := ?_)
         refine Oz (h := ?_)
         refine Oz (h := ?_)
         refine Oz (h := ?_)
         refine Oz (h := ?_)
         refine Oz (h := ?_)
         refine Oz (h := ?_)
         refine Oz (h := ?_)
         refine Oy (y := y_pick_false) (h := ?_)
         refine Oy (y := y_move) (h := ?_)
         refine Oz (h := ?_)
         refine Oz (h := ?_)
         refine Oz (h := ?_)
         refine Oz (h := ?_)
         refine Oz (h := ?_)
         refine Oz (h := ?_)
         refine Oy (y := y_pick_false) (h := ?_)
         refine Oy (y := y_assign) (h := ?_)
         refine WO.done ?_
         refine Kgoto JP27 false ?_
         exact ⟨fun h => (by cases h), fun h => absurd ⟨h.1, h.2.1.1, h.2.1.2⟩ hc114⟩
      ·
       intro JP26
       refine WK.region ?_
       refine Ly y_move ?_
       refine Le (e_call (by exact Tryz.call14) (t := refValid_spec 12 true xad X.length xcap X (by omega))) ?_
       rintro _ -
       try dsimp only
       refine Ly y_move ?_
       refine WL.split (d := 105) (by rfl) (fun hc105 => ?_) (fun hc105 => ?_)
       ·
        have hv : VH 12 X := of_decide_eq_true hc105
        refine Lyg y_move ?_
        refine Lyg y_geq ?_
        refine Ly y_pick_true ?_
        refine Ly y_move ?_
        refine WL.split (d := 109) (by rfl) (fun hc109 => ?_) (fun hc109 => ?_)
        ·
         have hc109 := of_decide_eq_true hc109
         refine Lyg y_move ?_
         refine Lyg y_lss ?_
         refine Ly y_pick_true ?_
         refine Ly y_assign ?_
         refine WL.done ?_
         refine Kgoto JP26 _ ?_
         exact ⟨fun h => ⟨hv, hc109, of_decide_eq_true h⟩, fun h => decide_eq_true h.2.2⟩
        ·
         have hc109 := of_decide_eq_false hc109
         refine Lz ?_
         refine Lz ?_
         refine Ly y_pick_false ?_
         refine Ly y_assign ?_
         refine WL.done ?_
         refine Kgoto JP26 false ?_
         exact ⟨fun h => (by cases h), fun h => absurd h.2.1 hc109⟩
       ·
        have hv : ¬ VH 12 X := of_decide_eq_false hc105
        refine Lz ?_
        refine Lz ?_
        refine Ly y_pick_false ?_
        refine Ly y_move ?_
        refine Lz ?_
        refine Lz ?_
        refine Ly y_pick_false ?_
        refine Ly y_assign ?_
        refine WL.done ?_
        refine Kgoto JP26 false ?_
        exact ⟨fun h => (by cases h), fun h => absurd h.1 hv⟩
     ·
      refine WK.region ?_
      refine Ly y_move ?_
      refine Le (e_call (by exact Tryz.call13) (t := homes_spec true xad X.length xcap X (by omega))) ?_
      rintro ⟨m2ad, m2cap⟩ -
      try dsimp only
      refine Ly y_move ?_
      refine Ly y_move ?_
      refine Le (e_call (by exact Tryz.call19) (t := join_spec true m2ad X.length m2cap X (by omega) sg.1 sg.2)) ?_
      rintro x100 hx100
      obtain rfl : x100 = none := by
        cases x100 with
        | none => rfl
        | some y => exact absurd (hx100.1 rfl) hjn
      dsimp only
      try dsimp only
      refine Ly y_move ?_
      refine Ly y_extract ?_
      refine Ly y_extract ?_
      refine Ly y_assign ?_
      refine Ly y_assign ?_
      refine WL.done ?_
      refine WK.seq ?_
      refine WK.cut (ι := Bool) (fun b => b = true ↔ (VH 12 X ∧ 0 ≤ sg.1 ∧ sg.1 < 12)) (fun b => [(26, .bool b), (15, .slice xad X.length xcap), (16, .slice (some ⟨b50, 0, none⟩) 3 3), (17, .slice (some ⟨b59, 0, none⟩) 2 2), (18, .int .i64 (i : Int)), (19, .int .i64 (k : Int)), (20, .int .i64 sg.1), (21, .int .i64 sg.2), (22, .slice sad (changedM (splitRw rg.1 rg.2 sg.1) X).length scap), (23, .int .i64 0), (24, .slice none 0 0), (25, .int .i64 1)]) (fun _ => sl true 84 2 sad (changedM (splitRw rg.1 rg.2 sg.1) X).length scap (homesC (changedM (splitRw rg.1 rg.2 sg.1) X)) :: sl true 83 2 xad X.length xcap (homesC X) :: sl true 38 2 (some ⟨b50, 0, none⟩) 3 3 (flat prC [(frm, to), (1 + aroundM frm 20, 1 + aroundM to 30), (1 + aroundM frm 20, 1073741824)]) :: sl true 38 2 (some ⟨b59, 0, none⟩) 2 2 (flat prC [(shard, into), (aroundM shard 4, aroundM into 4)]) :: slr 1 ad len (l.map (Value.int .i64)) :: F) ?_ ?_
      ·
       intro b26 hb26
       refine WK.seq ?_
       refine WK.cut (ι := Bool) (fun b => b = true ↔ (SplitOK X rg.1 rg.2 sg.1)) (fun b => [(27, .bool b), (15, .slice xad X.length xcap), (16, .slice (some ⟨b50, 0, none⟩) 3 3), (17, .slice (some ⟨b59, 0, none⟩) 2 2), (18, .int .i64 (i : Int)), (19, .int .i64 (k : Int)), (20, .int .i64 sg.1), (21, .int .i64 sg.2), (22, .slice sad (changedM (splitRw rg.1 rg.2 sg.1) X).length scap), (23, .int .i64 0), (24, .slice none 0 0), (25, .int .i64 1), (26, .bool b26)]) (fun _ => sl true 84 2 sad (changedM (splitRw rg.1 rg.2 sg.1) X).length scap (homesC (changedM (splitRw rg.1 rg.2 sg.1) X)) :: sl true 83 2 xad X.length xcap (homesC X) :: sl true 38 2 (some ⟨b50, 0, none⟩) 3 3 (flat prC [(frm, to), (1 + aroundM frm 20, 1 + aroundM to 30), (1 + aroundM frm 20, 1073741824)]) :: sl true 38 2 (some ⟨b59, 0, none⟩) 2 2 (flat prC [(shard, into), (aroundM shard 4, aroundM into 4)]) :: slr 1 ad len (l.map (Value.int .i64)) :: F) ?_ ?_
       ·
        intro b27 hb27
        obtain rfl : b27 = true := hb27.2 hsp
        refine WK.seq ?_
        refine WK.cut (ι := Bool) (fun b => b = true ↔ (JoinOK X sg.1 sg.2)) (fun b => [(28, .bool b), (15, .slice xad X.length xcap), (16, .slice (some ⟨b50, 0, none⟩) 3 3), (17, .slice (some ⟨b59, 0, none⟩) 2 2), (18, .int .i64 (i : Int)), (19, .int .i64 (k : Int)), (20, .int .i64 sg.1), (21, .int .i64 sg.2), (22, .slice sad (changedM (splitRw rg.1 rg.2 sg.1) X).length scap), (23, .int .i64 0), (24, .slice none 0 0), (25, .int .i64 1), (27, .bool true)]) (fun _ => sl true 84 2 sad (changedM (splitRw rg.1 rg.2 sg.1) X).length scap (homesC (changedM (splitRw rg.1 rg.2 sg.1) X)) :: sl true 83 2 xad X.length xcap (homesC X) :: sl true 38 2 (some ⟨b50, 0, none⟩) 3 3 (flat prC [(frm, to), (1 + aroundM frm 20, 1 + aroundM to 30), (1 + aroundM frm 20, 1073741824)]) :: sl true 38 2 (some ⟨b59, 0, none⟩) 2 2 (flat prC [(shard, into), (aroundM shard 4, aroundM into 4)]) :: slr 1 ad len (l.map (Value.int .i64)) :: F) ?_ ?_
        ·
         intro b28 hb28
         obtain rfl : b28 = false := Bool.eq_false_iff.2 (fun h => hjn (hb28.1 h))
         refine WK.seq ?_
         refine WK.seq ?_
         refine WK.region ?_
         refine Ly y_move ?_
         refine Ly y_move ?_
         refine Ly y_eql ?_
         refine Ly (y_boolNeq (hu := by exact Tryz.runUnderlying4)) ?_
         refine Ly y_move ?_
         refine Lyg y_move ?_
         refine Lyg y_not ?_
         refine Lyg y_move ?_
         refine Lz ?_
         refine Lz ?_
         refine Lz ?_
         refine Lzu ?_
         refine Lzu ?_
         refine Lzu ?_
         refine Lz ?_
         refine Lyg y_pick_false ?_
         refine Ly y_pick_false ?_
         refine Ly y_move ?_
         refine Lyg y_move ?_
         refine Lyg y_move ?_
         refine Lyg y_eql ?_
         refine Lyg (y_boolNeq (hu := by exact Tryz.runUnderlying4)) ?_
         refine Ly y_pick_false ?_
         refine Ly y_move ?_
         refine Lyg y_move ?_
         refine Lyg y_not ?_
         refine Lyg y_move ?_
         refine Lyg y_move ?_
         refine Lyg y_neq ?_
         refine Lyg y_move ?_
         refine Lyg y_move ?_
         refine Lyg (y_len (hu := by exact Tryz.runUnderlying30)) ?_
         refine Lyg y_neq ?_
         refine Lyg y_pick_false ?_
         refine Lyg y_pick_true ?_
         refine Ly y_pick_false ?_
         refine WL.done ?_
         refine Kcond (ht := fun h => by cases h) (hf := fun _ => ?_)
         refine WK.skip ?_
         refine WK.seq ?_
         refine Kdr (l := [(0, 0), (1, 0), (2, 0), (3, 0), (4, 0), (5, 0), (6, 0), (7, 0), (8, 0), (9, 0), (10, 0), (11, 0), (12, 0), (13, 0), (14, 0), (15, 1), (16, 1), (17, 0), (18, 0), (19, 0), (20, 0), (21, 0), (22, 0), (23, 0), (24, 0), (25, 0), (26, 1), (27, 1), (28, 0), (29, 0), (30, 0)]) (Cs := [sl true 38 2 (some ⟨b50, 0, none⟩) 3 3 (flat prC [(frm, to), (1 + aroundM frm 20, 1 + aroundM to 30), (1 + aroundM frm 20, 1073741824)])]) (h := ?_)
         refine Oy (y := y_move) (h := ?_)
         refine Oy (y := y_move) (h := ?_)
         refine Oyg (y := y_move) (h := ?_)
         refine Oyg (y := y_move) (h := ?_)
         refine Oyg (y := y_move) (h := ?_)
         refine Oyg (y := y_move) (h := ?_)
         refine Oyg (y := y_indexAddrS (hu := by exact Tryz.runUnderlying39) (hz := by exact Tryz.sizeOf38) (j := i) (hi := by first | rfl | omega) (hj' := by omega) (hj := by omega)) (h := ?_)
         refine Oyg (y := yld_indexAddrE (by rfl) (by rfl) (by exact Tryz.runUnderlying38) (by exact Tryz.sizeOf3) (0) (by first | rfl | omega) (by first | decide | omega) (by rfl)) (h := ?_)
         refine Oyg (y := y_loadS (ha := by exact Tryz.isAgg3) (hv := by exact flat_get prC_len hrg (j := 0) rfl rfl)) (h := ?_)
         refine Oyg (y := y_move) (h := ?_)
         refine Oyg (y := y_move) (h := ?_)
         refine Oyg (y := y_indexAddrS (hu := by exact Tryz.runUnderlying39) (hz := by exact Tryz.sizeOf38) (j := i) (hi := by first | rfl | omega) (hj' := by omega) (hj := by omega)) (h := ?_)
         refine Oyg (y := yld_indexAddrE (by rfl) (by rfl) (by exact Tryz.runUnderlying38) (by exact Tryz.sizeOf3) (1) (by first | rfl | omega) (by first | decide | omega) (by rfl)) (h := ?_)
         refine Oyg (y := y_loadS (ha := by exact Tryz.isAgg3) (hv := by exact flat_get prC_len hrg (j := 1) rfl rfl)) (h := ?_)
         refine Oyg (y := y_move) (h := ?_)
         refine Oeg (e := (e_call (by exact Tryz.call21) (t := (refSplit_spec true xad X.length xcap X (by omega) rg.1 rg.2 sg.1 ⟨hsp.2.2.2.2, by have h1 := hsp.2.2.1; have h2 := hsp.2.2.2.1; omega⟩)))) (h := ?_)
         rintro ⟨rad, rcap⟩ -
         try dsimp only
         refine Oeg (e := e_call (by exact Tryz.call20) (t := same_spec true true sad rad _ scap _ rcap (changedM (splitRw rg.1 rg.2 sg.1) X) (refSplitM X rg.1 rg.2 sg.1) (by have := split_len rg.1 rg.2 sg.1 X; omega))) (h := ?_)
         rintro _ -
         rw [decide_eq_true (split_eq hsp)]
         try dsimp only
         refine Oyg (y := y_not) (h := ?_)
         refine Oy (y := y_pick_true) (h := ?_)
         refine Oy (y := y_move) (h := ?_)
         refine Oyg (y := y_move) (h := ?_)
         refine Oyg (y := y_move) (h := ?_)
         refine Oz (h := ?_)
         refine Oz (h := ?_)
         refine Oz (h := ?_)
         refine Oz (h := ?_)
         refine OzE (h := ?_)
         refine OzE (h := ?_)
         refine Oz (h := ?_)
         refine Oyg (y := y_pick_false) (h := ?_)
         refine Oy (y := y_pick_false) (h := ?_)
         refine WO.done ?_
         refine Kcond (ht := fun h => by cases h) (hf := fun _ => ?_)
         refine WK.skip ?_
         refine WK.endBlock ?_
         refine WK.region ?_
         refine Ly y_move ?_
         refine Ly y_add ?_
         refine Ly y_assign ?_
         refine WL.done ?_
         exact Knext hN2 (k + 1) (by omega) (by omega)
        ·
         intro JP28
         refine WK.region ?_
         refine Ly y_move ?_
         refine Ly y_move ?_
         refine WL.split (d := 144) (by rfl) (fun hc144 => ?_) (fun hc144 => ?_)
         ·
          have hc144 := hb26.1 hc144
          refine Lyg y_move ?_
          refine Lyg y_geq ?_
          refine Ly y_pick_true ?_
          refine Ly y_move ?_
          refine WL.split (d := 148) (by rfl) (fun hc148 => ?_) (fun hc148 => ?_)
          ·
           have hc148 := of_decide_eq_true hc148
           refine Lyg y_move ?_
           refine Lyg y_lss ?_
           refine Ly y_pick_true ?_
           refine Ly y_assign ?_
           refine WL.done ?_
           refine Kgoto JP28 _ ?_
           exact ⟨fun h => ⟨hc144.1, hc144.2, hc148, of_decide_eq_true h⟩, fun h => decide_eq_true h.2.2.2⟩
          ·
           have hc148 := of_decide_eq_false hc148
           refine Lz ?_
           refine Lz ?_
           refine Ly y_pick_false ?_
           refine Ly y_assign ?_
           refine WL.done ?_
           refine Kgoto JP28 false ?_
           exact ⟨fun h => (by cases h), fun h => absurd h.2.2.1 hc148⟩
         ·
          have hc144 := mt hb26.2 (by rw [hc144]; simp)
          refine Lz ?_
          refine Lz ?_
          refine Ly y_pick_false ?_
          refine Ly y_move ?_
          refine Lz ?_
          refine Lz ?_
          refine Ly y_pick_false ?_
          refine Ly y_assign ?_
          refine WL.done ?_
          refine Kgoto JP28 false ?_
          exact ⟨fun h => (by cases h), fun h => absurd ⟨h.1, h.2.1.1, h.2.1.2⟩ hc144⟩
       ·
        intro JP27
        refine KdrQ (l := [(0, 0), (1, 0), (2, 0), (3, 0), (4, 0), (5, 0), (6, 0), (7, 0), (8, 0), (9, 0), (10, 0), (11, 0), (12, 0), (13, 0), (14, 0), (15, 0), (16, 0), (17, 0), (18, 0), (19, 0), (20, 0), (21, 0), (22, 0), (23, 0), (24, 0), (25, 0), (26, 0), (27, 0), (28, 0), (29, 0), (30, 0)]) (h := ?_)
        refine Oy (y := y_move) (h := ?_)
        refine Oy (y := y_move) (h := ?_)
        refine WO.split (d := 114) (by rfl) (fun hc114 => ?_) (fun hc114 => ?_)
        ·
         have hc114 := hb26.1 hc114
         refine Oyg (y := y_move) (h := ?_)
         refine Oyg (y := y_move) (h := ?_)
         refine Oyg (y := y_indexAddrS (hu := by exact Tryz.runUnderlying39) (hz := by exact Tryz.sizeOf38) (j := i) (hi := by first | rfl | omega) (hj' := by omega) (hj := by omega)) (h := ?_)
         refine Oyg (y := yld_indexAddrE (by rfl) (by rfl) (by exact Tryz.runUnderlying38) (by exact Tryz.sizeOf3) (0) (by first | rfl | omega) (by first | decide | omega) (by rfl)) (h := ?_)
         refine Oyg (y := y_loadS (ha := by exact Tryz.isAgg3) (hv := by exact flat_get prC_len hrg (j := 0) rfl rfl)) (h := ?_)
         refine Oyg (y := y_geq) (h := ?_)
         refine Oy (y := y_pick_true) (h := ?_)
         refine Oy (y := y_move) (h := ?_)
         refine WO.split (d := 122) (by rfl) (fun hc122 => ?_) (fun hc122 => ?_)
         ·
          have hc122 := of_decide_eq_true hc122
          refine Oyg (y := y_move) (h := ?_)
          refine Oyg (y := y_move) (h := ?_)
          refine Oyg (y := y_indexAddrS (hu := by exact Tryz.runUnderlying39) (hz := by exact Tryz.sizeOf38) (j := i) (hi := by first | rfl | omega) (hj' := by omega) (hj := by omega)) (h := ?_)
          refine Oyg (y := yld_indexAddrE (by rfl) (by rfl) (by exact Tryz.runUnderlying38) (by exact Tryz.sizeOf3) (1) (by first | rfl | omega) (by first | decide | omega) (by rfl)) (h := ?_)
          refine Oyg (y := y_loadS (ha := by exact Tryz.isAgg3) (hv := by exact flat_get prC_len hrg (j := 1) rfl rfl)) (h := ?_)
          refine Oyg (y := y_move) (h := ?_)
          refine Oyg (y := y_move) (h := ?_)
          refine Oyg (y := y_indexAddrS (hu := by exact Tryz.runUnderlying39) (hz := by exact Tryz.sizeOf38) (j := i) (hi := by first | rfl | omega) (hj' := by omega) (hj := by omega)) (h := ?_)
          refine Oyg (y := yld_indexAddrE (by rfl) (by rfl) (by exact Tryz.runUnderlying38) (by exact Tryz.sizeOf3) (0) (by first | rfl | omega) (by first | decide | omega) (by rfl)) (h := ?_)
          refine Oyg (y := y_loadS (ha := by exact Tryz.isAgg3) (hv := by exact flat_get prC_len hrg (j := 0) rfl rfl)) (h := ?_)
          refine Oyg (y := y_geq) (h := ?_)
          refine Oy (y := y_pick_true) (h := ?_)
          refine Oy (y := y_move) (h := ?_)
          refine WO.split (d := 135) (by rfl) (fun hc135 => ?_) (fun hc135 => ?_)
          ·
           have hc135 := of_decide_eq_true hc135
           refine Oyg (y := y_move) (h := ?_)
           refine Oyg (y := y_move) (h := ?_)
           refine Oyg (y := y_indexAddrS (hu := by exact Tryz.runUnderlying39) (hz := by exact Tryz.sizeOf38) (j := i) (hi := by first | rfl | omega) (hj' := by omega) (hj := by omega)) (h := ?_)
           refine Oyg (y := yld_indexAddrE (by rfl) (by rfl) (by exact Tryz.runUnderlying38) (by exact Tryz.sizeOf3) (1) (by first | rfl | omega) (by first | decide | omega) (by rfl)) (h := ?_)
           refine Oyg (y := y_loadS (ha := by exact Tryz.isAgg3) (hv := by exact flat_get prC_len hrg (j := 1) rfl rfl)) (h := ?_)
           refine Oyg (y := y_leq) (h := ?_)
           refine Oy (y := y_pick_true) (h := ?_)
           refine Oy (y := y_assign) (h := ?_)
           refine WO.done ?_
           refine Kgoto JP27 _ ?_
           exact ⟨fun h => ⟨hc114.1, hc114.2, hc122, hc135, of_decide_eq_true h⟩, fun h => decide_eq_true h.2.2.2.2⟩
          ·
           have hc135 := of_decide_eq_false hc135
           refine Oz (h := ?_)
           refine Oz (h := ?_)
           refine Oz (h := ?_)
           refine Oz (h := ?_)
           refine Oz (h := ?_)
           refine Oz (h := ?_)
           refine Oy (y := y_pick_false) (h := ?_)
           refine Oy (y := y_assign) (h := ?_)
           refine WO.done ?_
           refine Kgoto JP27 false ?_
           exact ⟨fun h => (by cases h), fun h => absurd h.2.2.2.1 hc135⟩
         ·
          have hc122 := of_decide_eq_false hc122
          refine Oz (h := ?_)
          refine Oz (h := ?_)
          refine Oz (h := ?_)
          refine Oz (h := ?_)
          refine Oz (h := ?_)
          refine Oz (h := ?_)
          refine Oz (h := ?_)
          refine Oz (h := ?_)
          refine Oz (h := ?_)
          refine Oz (h := ?_)
          refine Oz (h := ?_)
          refine Oy (y := y_pick_false) (h := ?_)
          refine Oy (y := y_move) (h := ?_)
          refine Oz (h := ?_)
          refine Oz (h := ?_)
          refine Oz (h := ?_)
          refine Oz (h := ?_)
          refine Oz (h := ?_)
          refine Oz (h := ?_)
          refine Oy (y := y_pick_false) (h := ?_)
          refine Oy (y := y_assign) (h := ?_)
          refine WO.done ?_
          refine Kgoto JP27 false ?_
          exact ⟨fun h => (by cases h), fun h => absurd h.2.2.1 hc122⟩
        ·
         have hc114 := mt hb26.2 (by rw [hc114]; simp)
         refine Oz (h := ?_)
         refine Oz (h := ?_)
         refine Oz (h := ?_)
         refine Oz (h := ?_)
         refine Oz (h := ?_)
         refine Oz (h := ?_)
         refine Oy (y := y_pick_false) (h := ?_)
         refine Oy (y := y_move) (h := ?_)
         refine Oz (h := ?_)
         refine Oz (h := ?_)
         refine Oz (h := ?_)
         refine Oz (h := ?_)
         refine Oz (h := ?_)
         refine Oz (h := ?_)
         refine Oz (h := ?_)
         refine Oz (h := ?_)
         refine Oz (h := ?_)
         refine Oz (h := ?_)
         refine Oz (h := ?_)
         refine Oy (y := y_pick_false) (h := ?_)
         refine Oy (y := y_move) (h := ?_)
         refine Oz (h := ?_)
         refine Oz (h := ?_)
         refine Oz (h := ?_)
         refine Oz (h := ?_)
         refine Oz (h := ?_)
         refine Oz (h := ?_)
         refine Oy (y := y_pick_false) (h := ?_)
         refine Oy (y := y_assign) (h := ?_)
         refine WO.done ?_
         refine Kgoto JP27 false ?_
         exact ⟨fun h => (by cases h), fun h => absurd ⟨h.1, h.2.1.1, h.2.1.2⟩ hc114⟩
      ·
       intro JP26
       refine WK.region ?_
       refine Ly y_move ?_
       refine Le (e_call (by exact Tryz.call14) (t := refValid_spec 12 true xad X.length xcap X (by omega))) ?_
       rintro _ -
       try dsimp only
       refine Ly y_move ?_
       refine WL.split (d := 105) (by rfl) (fun hc105 => ?_) (fun hc105 => ?_)
       ·
        have hv : VH 12 X := of_decide_eq_true hc105
        refine Lyg y_move ?_
        refine Lyg y_geq ?_
        refine Ly y_pick_true ?_
        refine Ly y_move ?_
        refine WL.split (d := 109) (by rfl) (fun hc109 => ?_) (fun hc109 => ?_)
        ·
         have hc109 := of_decide_eq_true hc109
         refine Lyg y_move ?_
         refine Lyg y_lss ?_
         refine Ly y_pick_true ?_
         refine Ly y_assign ?_
         refine WL.done ?_
         refine Kgoto JP26 _ ?_
         exact ⟨fun h => ⟨hv, hc109, of_decide_eq_true h⟩, fun h => decide_eq_true h.2.2⟩
        ·
         have hc109 := of_decide_eq_false hc109
         refine Lz ?_
         refine Lz ?_
         refine Ly y_pick_false ?_
         refine Ly y_assign ?_
         refine WL.done ?_
         refine Kgoto JP26 false ?_
         exact ⟨fun h => (by cases h), fun h => absurd h.2.1 hc109⟩
       ·
        have hv : ¬ VH 12 X := of_decide_eq_false hc105
        refine Lz ?_
        refine Lz ?_
        refine Ly y_pick_false ?_
        refine Ly y_move ?_
        refine Lz ?_
        refine Lz ?_
        refine Ly y_pick_false ?_
        refine Ly y_assign ?_
        refine WL.done ?_
        refine Kgoto JP26 false ?_
        exact ⟨fun h => (by cases h), fun h => absurd h.1 hv⟩
    ·
     refine Kdr (l := [(0, 0), (2, 0), (3, 0), (4, 0), (5, 0), (6, 0), (7, 0), (8, 0), (9, 0), (10, 0), (11, 0), (12, 0), (1, 1), (13, 1), (14, 0), (15, 0), (16, 0), (17, 0), (18, 0)]) (Cs := [sl true 38 2 (some ⟨b50, 0, none⟩) 3 3 (flat prC [(frm, to), (1 + aroundM frm 20, 1 + aroundM to 30), (1 + aroundM frm 20, 1073741824)])]) (h := ?_)
     refine Oy (y := y_move) (h := ?_)
     refine Oy (y := y_move) (h := ?_)
     refine Oy (y := y_move) (h := ?_)
     refine Oy (y := y_indexAddrS (hu := by exact Tryz.runUnderlying39) (hz := by exact Tryz.sizeOf38) (j := i) (hi := by first | rfl | omega) (hj' := by omega) (hj := by omega)) (h := ?_)
     refine Oy (y := yld_indexAddrE (by rfl) (by rfl) (by exact Tryz.runUnderlying38) (by exact Tryz.sizeOf3) (0) (by first | rfl | omega) (by first | decide | omega) (by rfl)) (h := ?_)
     refine Oy (y := y_loadS (ha := by exact Tryz.isAgg3) (hv := by exact flat_get prC_len hrg (j := 0) rfl rfl)) (h := ?_)
     refine Oy (y := y_move) (h := ?_)
     refine Oy (y := y_move) (h := ?_)
     refine Oy (y := y_indexAddrS (hu := by exact Tryz.runUnderlying39) (hz := by exact Tryz.sizeOf38) (j := i) (hi := by first | rfl | omega) (hj' := by omega) (hj := by omega)) (h := ?_)
     refine Oy (y := yld_indexAddrE (by rfl) (by rfl) (by exact Tryz.runUnderlying38) (by exact Tryz.sizeOf3) (1) (by first | rfl | omega) (by first | decide | omega) (by rfl)) (h := ?_)
     refine Oy (y := y_loadS (ha := by exact Tryz.isAgg3) (hv := by exact flat_get prC_len hrg (j := 1) rfl rfl)) (h := ?_)
     refine Oy (y := y_move) (h := ?_)
     refine Oe (e := e_call (by exact Tryz.call13) (t := homes_spec true xad X.length xcap X (by omega))) (h := ?_)
     rintro ⟨m1ad, m1cap⟩ -
     try dsimp only
     refine Oe (e := e_call (by exact Tryz.call18) (t := split_spec true m1ad X.length m1cap X (by omega) rg.1 rg.2 sg.1)) (hC := fun x => SelL.cons (Sel.pre _ (Sel.there Sel.here)) SelL.nil) (h := ?_)
     rintro x92 hx92
     obtain rfl : x92 = none := by
       cases x92 with
       | none => rfl
       | some y => exact absurd (hx92.1 rfl) hsp
     dsimp only
     try dsimp only
     refine Oy (y := y_move) (h := ?_)
     refine Oy (y := y_extract) (h := ?_)
     refine Oy (y := y_extract) (h := ?_)
     refine Oy (y := y_assign) (h := ?_)
     refine Oy (y := y_assign) (h := ?_)
     refine WO.done ?_
     refine WK.seq ?_
     by_cases hjn : JoinOK X sg.1 sg.2
     ·
      refine WK.region ?_
      refine Ly y_move ?_
      refine Le (e_call (by exact Tryz.call13) (t := homes_spec true xad X.length xcap X (by omega))) ?_
      rintro ⟨m2ad, m2cap⟩ -
      try dsimp only
      refine Ly y_move ?_
      refine Ly y_move ?_
      refine Le (e_call (by exact Tryz.call19) (t := join_spec true m2ad X.length m2cap X (by omega) sg.1 sg.2)) ?_
      rintro x100 hx100
      obtain ⟨⟨jad, jcap⟩, rfl⟩ := Option.isSome_iff_exists.1 (hx100.2 hjn)
      dsimp only
      try dsimp only
      refine Ly y_move ?_
      refine Ly y_extract ?_
      refine Ly y_extract ?_
      refine Ly y_assign ?_
      refine Ly y_assign ?_
      refine WL.done ?_
      refine WK.seq ?_
      refine WK.cut (ι := Bool) (fun b => b = true ↔ (VH 12 X ∧ 0 ≤ sg.1 ∧ sg.1 < 12)) (fun b => [(26, .bool b), (15, .slice xad X.length xcap), (16, .slice (some ⟨b50, 0, none⟩) 3 3), (17, .slice (some ⟨b59, 0, none⟩) 2 2), (18, .int .i64 (i : Int)), (19, .int .i64 (k : Int)), (20, .int .i64 sg.1), (21, .int .i64 sg.2), (22, .slice none 0 0), (23, .int .i64 1), (24, .slice jad (changedM (joinRw sg.1 sg.2) X).length jcap), (25, .int .i64 0)]) (fun _ => sl true 84 2 jad (changedM (joinRw sg.1 sg.2) X).length jcap (homesC (changedM (joinRw sg.1 sg.2) X)) :: sl true 83 2 xad X.length xcap (homesC X) :: sl true 38 2 (some ⟨b50, 0, none⟩) 3 3 (flat prC [(frm, to), (1 + aroundM frm 20, 1 + aroundM to 30), (1 + aroundM frm 20, 1073741824)]) :: sl true 38 2 (some ⟨b59, 0, none⟩) 2 2 (flat prC [(shard, into), (aroundM shard 4, aroundM into 4)]) :: slr 1 ad len (l.map (Value.int .i64)) :: F) ?_ ?_
      ·
       intro b26 hb26
       refine WK.seq ?_
       refine WK.cut (ι := Bool) (fun b => b = true ↔ (SplitOK X rg.1 rg.2 sg.1)) (fun b => [(27, .bool b), (15, .slice xad X.length xcap), (16, .slice (some ⟨b50, 0, none⟩) 3 3), (17, .slice (some ⟨b59, 0, none⟩) 2 2), (18, .int .i64 (i : Int)), (19, .int .i64 (k : Int)), (20, .int .i64 sg.1), (21, .int .i64 sg.2), (22, .slice none 0 0), (23, .int .i64 1), (24, .slice jad (changedM (joinRw sg.1 sg.2) X).length jcap), (25, .int .i64 0), (26, .bool b26)]) (fun _ => sl true 84 2 jad (changedM (joinRw sg.1 sg.2) X).length jcap (homesC (changedM (joinRw sg.1 sg.2) X)) :: sl true 83 2 xad X.length xcap (homesC X) :: sl true 38 2 (some ⟨b50, 0, none⟩) 3 3 (flat prC [(frm, to), (1 + aroundM frm 20, 1 + aroundM to 30), (1 + aroundM frm 20, 1073741824)]) :: sl true 38 2 (some ⟨b59, 0, none⟩) 2 2 (flat prC [(shard, into), (aroundM shard 4, aroundM into 4)]) :: slr 1 ad len (l.map (Value.int .i64)) :: F) ?_ ?_
       ·
        intro b27 hb27
        obtain rfl : b27 = false := Bool.eq_false_iff.2 (fun h => hsp (hb27.1 h))
        refine WK.seq ?_
        refine WK.cut (ι := Bool) (fun b => b = true ↔ (JoinOK X sg.1 sg.2)) (fun b => [(28, .bool b), (15, .slice xad X.length xcap), (16, .slice (some ⟨b50, 0, none⟩) 3 3), (17, .slice (some ⟨b59, 0, none⟩) 2 2), (18, .int .i64 (i : Int)), (19, .int .i64 (k : Int)), (20, .int .i64 sg.1), (21, .int .i64 sg.2), (22, .slice none 0 0), (23, .int .i64 1), (24, .slice jad (changedM (joinRw sg.1 sg.2) X).length jcap), (25, .int .i64 0), (27, .bool false)]) (fun _ => sl true 84 2 jad (changedM (joinRw sg.1 sg.2) X).length jcap (homesC (changedM (joinRw sg.1 sg.2) X)) :: sl true 83 2 xad X.length xcap (homesC X) :: sl true 38 2 (some ⟨b50, 0, none⟩) 3 3 (flat prC [(frm, to), (1 + aroundM frm 20, 1 + aroundM to 30), (1 + aroundM frm 20, 1073741824)]) :: sl true 38 2 (some ⟨b59, 0, none⟩) 2 2 (flat prC [(shard, into), (aroundM shard 4, aroundM into 4)]) :: slr 1 ad len (l.map (Value.int .i64)) :: F) ?_ ?_
        ·
         intro b28 hb28
         obtain rfl : b28 = true := hb28.2 hjn
         refine WK.seq ?_
         refine WK.seq ?_
         refine WK.region ?_
         refine Ly y_move ?_
         refine Ly y_move ?_
         refine Ly y_eql ?_
         refine Ly (y_boolNeq (hu := by exact Tryz.runUnderlying4)) ?_
         refine Ly y_move ?_
         refine Lyg y_move ?_
         refine Lyg y_not ?_
         refine Lyg y_move ?_
         refine Lyg y_move ?_
         refine Lyg y_neq ?_
         refine Lyg y_move ?_
         refine Lyg y_move ?_
         refine Lyg (y_len (hu := by exact Tryz.runUnderlying30)) ?_
         refine Lyg y_neq ?_
         refine Lyg y_pick_false ?_
         refine Lyg y_pick_true ?_
         refine Ly y_pick_false ?_
         refine Ly y_move ?_
         refine Lyg y_move ?_
         refine Lyg y_move ?_
         refine Lyg y_eql ?_
         refine Lyg (y_boolNeq (hu := by exact Tryz.runUnderlying4)) ?_
         refine Ly y_pick_false ?_
         refine Ly y_move ?_
         refine Lyg y_move ?_
         refine Lyg y_not ?_
         refine Lyg y_move ?_
         refine Lz ?_
         refine Lz ?_
         refine Lz ?_
         refine Lzu ?_
         refine Lzu ?_
         refine Lzu ?_
         refine Lz ?_
         refine Lyg y_pick_false ?_
         refine Ly y_pick_false ?_
         refine WL.done ?_
         refine Kcond (ht := fun h => by cases h) (hf := fun _ => ?_)
         refine WK.skip ?_
         refine WK.seq ?_
         refine Kdr (l := [(0, 0), (1, 0), (2, 0), (3, 0), (4, 0), (5, 0), (6, 0), (7, 0), (8, 0), (9, 0), (10, 0), (11, 0), (12, 0), (13, 0), (14, 0), (15, 1), (16, 1), (17, 0), (18, 0), (19, 0), (20, 0), (21, 0), (22, 0), (23, 0), (24, 0), (25, 0), (26, 1), (27, 1), (28, 0), (29, 0), (30, 0)]) (Cs := [sl true 38 2 (some ⟨b50, 0, none⟩) 3 3 (flat prC [(frm, to), (1 + aroundM frm 20, 1 + aroundM to 30), (1 + aroundM frm 20, 1073741824)])]) (h := ?_)
         refine Oy (y := y_move) (h := ?_)
         refine Oy (y := y_move) (h := ?_)
         refine Oz (h := ?_)
         refine Oz (h := ?_)
         refine Oz (h := ?_)
         refine Oz (h := ?_)
         refine Oz (h := ?_)
         refine Oz (h := ?_)
         refine Oz (h := ?_)
         refine Oz (h := ?_)
         refine Oz (h := ?_)
         refine Oz (h := ?_)
         refine Oz (h := ?_)
         refine Oz (h := ?_)
         refine Oz (h := ?_)
         refine OzE (h := ?_)
         refine OzE (h := ?_)
         refine Oz (h := ?_)
         refine Oy (y := y_pick_false) (h := ?_)
         refine Oy (y := y_move) (h := ?_)
         refine Oyg (y := y_move) (h := ?_)
         refine Oyg (y := y_move) (h := ?_)
         refine Oyg (y := y_move) (h := ?_)
         refine Oyg (y := y_move) (h := ?_)
         refine Oyg (y := y_move) (h := ?_)
         refine Oyg (y := y_move) (h := ?_)
         refine Oeg (e := e_call (by exact Tryz.call22) (t := refJoin_spec true xad X.length xcap X (by omega) sg.1 sg.2)) (h := ?_)
         rintro ⟨rad2, rcap2⟩ -
         try dsimp only
         refine Oeg (e := e_call (by exact Tryz.call20) (t := same_spec true true jad rad2 _ jcap _ rcap2 (changedM (joinRw sg.1 sg.2) X) (refJoinM X sg.1 sg.2) (by have := join_len sg.1 sg.2 X; omega))) (h := ?_)
         rintro _ -
         rw [decide_eq_true (join_eq X sg.1 sg.2)]
         try dsimp only
         refine Oyg (y := y_not) (h := ?_)
         refine Oyg (y := y_pick_true) (h := ?_)
         refine Oy (y := y_pick_false) (h := ?_)
         refine WO.done ?_
         refine Kcond (ht := fun h => by cases h) (hf := fun _ => ?_)
         refine WK.skip ?_
         refine WK.endBlock ?_
         refine WK.region ?_
         refine Ly y_move ?_
         refine Ly y_add ?_
         refine Ly y_assign ?_
         refine WL.done ?_
         exact Knext hN2 (k + 1) (by omega) (by omega)
        ·
         intro JP28
         refine WK.region ?_
         refine Ly y_move ?_
         refine Ly y_move ?_
         refine WL.split (d := 144) (by rfl) (fun hc144 => ?_) (fun hc144 => ?_)
         ·
          have hc144 := hb26.1 hc144
          refine Lyg y_move ?_
          refine Lyg y_geq ?_
          refine Ly y_pick_true ?_
          refine Ly y_move ?_
          refine WL.split (d := 148) (by rfl) (fun hc148 => ?_) (fun hc148 => ?_)
          ·
           have hc148 := of_decide_eq_true hc148
           refine Lyg y_move ?_
           refine Lyg y_lss ?_
           refine Ly y_pick_true ?_
           refine Ly y_assign ?_
           refine WL.done ?_
           refine Kgoto JP28 _ ?_
           exact ⟨fun h => ⟨hc144.1, hc144.2, hc148, of_decide_eq_true h⟩, fun h => decide_eq_true h.2.2.2⟩
          ·
           have hc148 := of_decide_eq_false hc148
           refine Lz ?_
           refine Lz ?_
           refine Ly y_pick_false ?_
           refine Ly y_assign ?_
           refine WL.done ?_
           refine Kgoto JP28 false ?_
           exact ⟨fun h => (by cases h), fun h => absurd h.2.2.1 hc148⟩
         ·
          have hc144 := mt hb26.2 (by rw [hc144]; simp)
          refine Lz ?_
          refine Lz ?_
          refine Ly y_pick_false ?_
          refine Ly y_move ?_
          refine Lz ?_
          refine Lz ?_
          refine Ly y_pick_false ?_
          refine Ly y_assign ?_
          refine WL.done ?_
          refine Kgoto JP28 false ?_
          exact ⟨fun h => (by cases h), fun h => absurd ⟨h.1, h.2.1.1, h.2.1.2⟩ hc144⟩
       ·
        intro JP27
        refine KdrQ (l := [(0, 0), (1, 0), (2, 0), (3, 0), (4, 0), (5, 0), (6, 0), (7, 0), (8, 0), (9, 0), (10, 0), (11, 0), (12, 0), (13, 0), (14, 0), (15, 0), (16, 0), (17, 0), (18, 0), (19, 0), (20, 0), (21, 0), (22, 0), (23, 0), (24, 0), (25, 0), (26, 0), (27, 0), (28, 0), (29, 0), (30, 0)]) (h := ?_)
        refine Oy (y := y_move) (h := ?_)
        refine Oy (y := y_move) (h := ?_)
        refine WO.split (d := 114) (by rfl) (fun hc114 => ?_) (fun hc114 => ?_)
        ·
         have hc114 := hb26.1 hc114
         refine Oyg (y := y_move) (h := ?_)
         refine Oyg (y := y_move) (h := ?_)
         refine Oyg (y := y_indexAddrS (hu := by exact Tryz.runUnderlying39) (hz := by exact Tryz.sizeOf38) (j := i) (hi := by first | rfl | omega) (hj' := by omega) (hj := by omega)) (h := ?_)
         refine Oyg (y := yld_indexAddrE (by rfl) (by rfl) (by exact Tryz.runUnderlying38) (by exact Tryz.sizeOf3) (0) (by first | rfl | omega) (by first | decide | omega) (by rfl)) (h := ?_)
         refine Oyg (y := y_loadS (ha := by exact Tryz.isAgg3) (hv := by exact flat_get prC_len hrg (j := 0) rfl rfl)) (h := ?_)
         refine Oyg (y := y_geq) (h := ?_)
         refine Oy (y := y_pick_true) (h := ?_)
         refine Oy (y := y_move) (h := ?_)
         refine WO.split (d := 122) (by rfl) (fun hc122 => ?_) (fun hc122 => ?_)
         ·
          have hc122 := of_decide_eq_true hc122
          refine Oyg (y := y_move) (h := ?_)
          refine Oyg (y := y_move) (h := ?_)
          refine Oyg (y := y_indexAddrS (hu := by exact Tryz.runUnderlying39) (hz := by exact Tryz.sizeOf38) (j := i) (hi := by first | rfl | omega) (hj' := by omega) (hj := by omega)) (h := ?_)
          refine Oyg (y := yld_indexAddrE (by rfl) (by rfl) (by exact Tryz.runUnderlying38) (by exact Tryz.sizeOf3) (1) (by first | rfl | omega) (by first | decide | omega) (by rfl)) (h := ?_)
          refine Oyg (y := y_loadS (ha := by exact Tryz.isAgg3) (hv := by exact flat_get prC_len hrg (j := 1) rfl rfl)) (h := ?_)
          refine Oyg (y := y_move) (h := ?_)
          refine Oyg (y := y_move) (h := ?_)
          refine Oyg (y := y_indexAddrS (hu := by exact Tryz.runUnderlying39) (hz := by exact Tryz.sizeOf38) (j := i) (hi := by first | rfl | omega) (hj' := by omega) (hj := by omega)) (h := ?_)
          refine Oyg (y := yld_indexAddrE (by rfl) (by rfl) (by exact Tryz.runUnderlying38) (by exact Tryz.sizeOf3) (0) (by first | rfl | omega) (by first | decide | omega) (by rfl)) (h := ?_)
          refine Oyg (y := y_loadS (ha := by exact Tryz.isAgg3) (hv := by exact flat_get prC_len hrg (j := 0) rfl rfl)) (h := ?_)
          refine Oyg (y := y_geq) (h := ?_)
          refine Oy (y := y_pick_true) (h := ?_)
          refine Oy (y := y_move) (h := ?_)
          refine WO.split (d := 135) (by rfl) (fun hc135 => ?_) (fun hc135 => ?_)
          ·
           have hc135 := of_decide_eq_true hc135
           refine Oyg (y := y_move) (h := ?_)
           refine Oyg (y := y_move) (h := ?_)
           refine Oyg (y := y_indexAddrS (hu := by exact Tryz.runUnderlying39) (hz := by exact Tryz.sizeOf38) (j := i) (hi := by first | rfl | omega) (hj' := by omega) (hj := by omega)) (h := ?_)
           refine Oyg (y := yld_indexAddrE (by rfl) (by rfl) (by exact Tryz.runUnderlying38) (by exact Tryz.sizeOf3) (1) (by first | rfl | omega) (by first | decide | omega) (by rfl)) (h := ?_)
           refine Oyg (y := y_loadS (ha := by exact Tryz.isAgg3) (hv := by exact flat_get prC_len hrg (j := 1) rfl rfl)) (h := ?_)
           refine Oyg (y := y_leq) (h := ?_)
           refine Oy (y := y_pick_true) (h := ?_)
           refine Oy (y := y_assign) (h := ?_)
           refine WO.done ?_
           refine Kgoto JP27 _ ?_
           exact ⟨fun h => ⟨hc114.1, hc114.2, hc122, hc135, of_decide_eq_true h⟩, fun h => decide_eq_true h.2.2.2.2⟩
          ·
           have hc135 := of_decide_eq_false hc135
           refine Oz (h := ?_)
           refine Oz (h := ?_)
           refine Oz (h := ?_)
           refine Oz (h := ?_)
           refine Oz (h := ?_)
           refine Oz (h := ?_)
           refine Oy (y := y_pick_false) (h := ?_)
           refine Oy (y := y_assign) (h := ?_)
           refine WO.done ?_
           refine Kgoto JP27 false ?_
           exact ⟨fun h => (by cases h), fun h => absurd h.2.2.2.1 hc135⟩
         ·
          have hc122 := of_decide_eq_false hc122
          refine Oz (h := ?_)
          refine Oz (h := ?_)
          refine Oz (h := ?_)
          refine Oz (h := ?_)
          refine Oz (h := ?_)
          refine Oz (h := ?_)
          refine Oz (h := ?_)
          refine Oz (h := ?_)
          refine Oz (h := ?_)
          refine Oz (h := ?_)
          refine Oz (h := ?_)
          refine Oy (y := y_pick_false) (h := ?_)
          refine Oy (y := y_move) (h := ?_)
          refine Oz (h := ?_)
          refine Oz (h := ?_)
          refine Oz (h := ?_)
          refine Oz (h := ?_)
          refine Oz (h := ?_)
          refine Oz (h := ?_)
          refine Oy (y := y_pick_false) (h := ?_)
          refine Oy (y := y_assign) (h := ?_)
          refine WO.done ?_
          refine Kgoto JP27 false ?_
          exact ⟨fun h => (by cases h), fun h => absurd h.2.2.1 hc122⟩
        ·
         have hc114 := mt hb26.2 (by rw [hc114]; simp)
         refine Oz (h := ?_)
         refine Oz (h := ?_)
         refine Oz (h := ?_)
         refine Oz (h := ?_)
         refine Oz (h := ?_)
         refine Oz (h := ?_)
         refine Oy (y := y_pick_false) (h := ?_)
         refine Oy (y := y_move) (h := ?_)
         refine Oz (h := ?_)
         refine Oz (h := ?_)
         refine Oz (h := ?_)
         refine Oz (h := ?_)
         refine Oz (h := ?_)
         refine Oz (h := ?_)
         refine Oz (h := ?_)
         refine Oz (h := ?_)
         refine Oz (h := ?_)
         refine Oz (h := ?_)
         refine Oz (h := ?_)
         refine Oy (y := y_pick_false) (h := ?_)
         refine Oy (y := y_move) (h := ?_)
         refine Oz (h := ?_)
         refine Oz (h := ?_)
         refine Oz (h := ?_)
         refine Oz (h := ?_)
         refine Oz (h := ?_)
         refine Oz (h := ?_)
         refine Oy (y := y_pick_false) (h := ?_)
         refine Oy (y := y_assign) (h := ?_)
         refine WO.done ?_
         refine Kgoto JP27 false ?_
         exact ⟨fun h => (by cases h), fun h => absurd ⟨h.1, h.2.1.1, h.2.1.2⟩ hc114⟩
      ·
       intro JP26
       refine WK.region ?_
       refine Ly y_move ?_
       refine Le (e_call (by exact Tryz.call14) (t := refValid_spec 12 true xad X.length xcap X (by omega))) ?_
       rintro _ -
       try dsimp only
       refine Ly y_move ?_
       refine WL.split (d := 105) (by rfl) (fun hc105 => ?_) (fun hc105 => ?_)
       ·
        have hv : VH 12 X := of_decide_eq_true hc105
        refine Lyg y_move ?_
        refine Lyg y_geq ?_
        refine Ly y_pick_true ?_
        refine Ly y_move ?_
        refine WL.split (d := 109) (by rfl) (fun hc109 => ?_) (fun hc109 => ?_)
        ·
         have hc109 := of_decide_eq_true hc109
         refine Lyg y_move ?_
         refine Lyg y_lss ?_
         refine Ly y_pick_true ?_
         refine Ly y_assign ?_
         refine WL.done ?_
         refine Kgoto JP26 _ ?_
         exact ⟨fun h => ⟨hv, hc109, of_decide_eq_true h⟩, fun h => decide_eq_true h.2.2⟩
        ·
         have hc109 := of_decide_eq_false hc109
         refine Lz ?_
         refine Lz ?_
         refine Ly y_pick_false ?_
         refine Ly y_assign ?_
         refine WL.done ?_
         refine Kgoto JP26 false ?_
         exact ⟨fun h => (by cases h), fun h => absurd h.2.1 hc109⟩
       ·
        have hv : ¬ VH 12 X := of_decide_eq_false hc105
        refine Lz ?_
        refine Lz ?_
        refine Ly y_pick_false ?_
        refine Ly y_move ?_
        refine Lz ?_
        refine Lz ?_
        refine Ly y_pick_false ?_
        refine Ly y_assign ?_
        refine WL.done ?_
        refine Kgoto JP26 false ?_
        exact ⟨fun h => (by cases h), fun h => absurd h.1 hv⟩
     ·
      refine WK.region ?_
      refine Ly y_move ?_
      refine Le (e_call (by exact Tryz.call13) (t := homes_spec true xad X.length xcap X (by omega))) ?_
      rintro ⟨m2ad, m2cap⟩ -
      try dsimp only
      refine Ly y_move ?_
      refine Ly y_move ?_
      refine Le (e_call (by exact Tryz.call19) (t := join_spec true m2ad X.length m2cap X (by omega) sg.1 sg.2)) ?_
      rintro x100 hx100
      obtain rfl : x100 = none := by
        cases x100 with
        | none => rfl
        | some y => exact absurd (hx100.1 rfl) hjn
      dsimp only
      try dsimp only
      refine Ly y_move ?_
      refine Ly y_extract ?_
      refine Ly y_extract ?_
      refine Ly y_assign ?_
      refine Ly y_assign ?_
      refine WL.done ?_
      refine WK.seq ?_
      refine WK.cut (ι := Bool) (fun b => b = true ↔ (VH 12 X ∧ 0 ≤ sg.1 ∧ sg.1 < 12)) (fun b => [(26, .bool b), (15, .slice xad X.length xcap), (16, .slice (some ⟨b50, 0, none⟩) 3 3), (17, .slice (some ⟨b59, 0, none⟩) 2 2), (18, .int .i64 (i : Int)), (19, .int .i64 (k : Int)), (20, .int .i64 sg.1), (21, .int .i64 sg.2), (22, .slice none 0 0), (23, .int .i64 1), (24, .slice none 0 0), (25, .int .i64 1)]) (fun _ => sl true 83 2 xad X.length xcap (homesC X) :: sl true 38 2 (some ⟨b50, 0, none⟩) 3 3 (flat prC [(frm, to), (1 + aroundM frm 20, 1 + aroundM to 30), (1 + aroundM frm 20, 1073741824)]) :: sl true 38 2 (some ⟨b59, 0, none⟩) 2 2 (flat prC [(shard, into), (aroundM shard 4, aroundM into 4)]) :: slr 1 ad len (l.map (Value.int .i64)) :: F) ?_ ?_
      ·
       intro b26 hb26
       refine WK.seq ?_
       refine WK.cut (ι := Bool) (fun b => b = true ↔ (SplitOK X rg.1 rg.2 sg.1)) (fun b => [(27, .bool b), (15, .slice xad X.length xcap), (16, .slice (some ⟨b50, 0, none⟩) 3 3), (17, .slice (some ⟨b59, 0, none⟩) 2 2), (18, .int .i64 (i : Int)), (19, .int .i64 (k : Int)), (20, .int .i64 sg.1), (21, .int .i64 sg.2), (22, .slice none 0 0), (23, .int .i64 1), (24, .slice none 0 0), (25, .int .i64 1), (26, .bool b26)]) (fun _ => sl true 83 2 xad X.length xcap (homesC X) :: sl true 38 2 (some ⟨b50, 0, none⟩) 3 3 (flat prC [(frm, to), (1 + aroundM frm 20, 1 + aroundM to 30), (1 + aroundM frm 20, 1073741824)]) :: sl true 38 2 (some ⟨b59, 0, none⟩) 2 2 (flat prC [(shard, into), (aroundM shard 4, aroundM into 4)]) :: slr 1 ad len (l.map (Value.int .i64)) :: F) ?_ ?_
       ·
        intro b27 hb27
        obtain rfl : b27 = false := Bool.eq_false_iff.2 (fun h => hsp (hb27.1 h))
        refine WK.seq ?_
        refine WK.cut (ι := Bool) (fun b => b = true ↔ (JoinOK X sg.1 sg.2)) (fun b => [(28, .bool b), (15, .slice xad X.length xcap), (16, .slice (some ⟨b50, 0, none⟩) 3 3), (17, .slice (some ⟨b59, 0, none⟩) 2 2), (18, .int .i64 (i : Int)), (19, .int .i64 (k : Int)), (20, .int .i64 sg.1), (21, .int .i64 sg.2), (22, .slice none 0 0), (23, .int .i64 1), (24, .slice none 0 0), (25, .int .i64 1), (27, .bool false)]) (fun _ => sl true 83 2 xad X.length xcap (homesC X) :: sl true 38 2 (some ⟨b50, 0, none⟩) 3 3 (flat prC [(frm, to), (1 + aroundM frm 20, 1 + aroundM to 30), (1 + aroundM frm 20, 1073741824)]) :: sl true 38 2 (some ⟨b59, 0, none⟩) 2 2 (flat prC [(shard, into), (aroundM shard 4, aroundM into 4)]) :: slr 1 ad len (l.map (Value.int .i64)) :: F) ?_ ?_
        ·
         intro b28 hb28
         obtain rfl : b28 = false := Bool.eq_false_iff.2 (fun h => hjn (hb28.1 h))
         refine WK.seq ?_
         refine WK.seq ?_
         refine WK.region ?_
         refine Ly y_move ?_
         refine Ly y_move ?_
         refine Ly y_eql ?_
         refine Ly (y_boolNeq (hu := by exact Tryz.runUnderlying4)) ?_
         refine Ly y_move ?_
         refine Lyg y_move ?_
         refine Lyg y_not ?_
         refine Lyg y_move ?_
         refine Lyg y_move ?_
         refine Lyg y_neq ?_
         refine Lyg y_move ?_
         refine Lyg y_move ?_
         refine Lyg (y_len (hu := by exact Tryz.runUnderlying30)) ?_
         refine Lyg y_neq ?_
         refine Lyg y_pick_false ?_
         refine Lyg y_pick_true ?_
         refine Ly y_pick_false ?_
         refine Ly y_move ?_
         refine Lyg y_move ?_
         refine Lyg y_move ?_
         refine Lyg y_eql ?_
         refine Lyg (y_boolNeq (hu := by exact Tryz.runUnderlying4)) ?_
         refine Ly y_pick_false ?_
         refine Ly y_move ?_
         refine Lyg y_move ?_
         refine Lyg y_not ?_
         refine Lyg y_move ?_
         refine Lyg y_move ?_
         refine Lyg y_neq ?_
         refine Lyg y_move ?_
         refine Lyg y_move ?_
         refine Lyg (y_len (hu := by exact Tryz.runUnderlying30)) ?_
         refine Lyg y_neq ?_
         refine Lyg y_pick_false ?_
         refine Lyg y_pick_true ?_
         refine Ly y_pick_false ?_
         refine WL.done ?_
         refine Kcond (ht := fun h => by cases h) (hf := fun _ => ?_)
         refine WK.skip ?_
         refine WK.seq ?_
         refine Kdr (l := [(0, 0), (1, 0), (2, 0), (3, 0), (4, 0), (5, 0), (6, 0), (7, 0), (8, 0), (9, 0), (10, 0), (11, 0), (12, 0), (13, 0), (14, 0), (15, 1), (16, 1), (17, 0), (18, 0), (19, 0), (20, 0), (21, 0), (22, 0), (23, 0), (24, 0), (25, 0), (26, 1), (27, 1), (28, 0), (29, 0), (30, 0)]) (Cs := [sl true 38 2 (some ⟨b50, 0, none⟩) 3 3 (flat prC [(frm, to), (1 + aroundM frm 20, 1 + aroundM to 30), (1 + aroundM frm 20, 1073741824)])]) (h := ?_)
         refine Oy (y := y_move) (h := ?_)
         refine Oy (y := y_move) (h := ?_)
         refine Oz (h := ?_)
         refine Oz (h := ?_)
         refine Oz (h := ?_)
         refine Oz (h := ?_)
         refine Oz (h := ?_)
         refine Oz (h := ?_)
         refine Oz (h := ?_)
         refine Oz (h := ?_)
         refine Oz (h := ?_)
         refine Oz (h := ?_)
         refine Oz (h := ?_)
         refine Oz (h := ?_)
         refine Oz (h := ?_)
         refine OzE (h := ?_)
         refine OzE (h := ?_)
         refine Oz (h := ?_)
         refine Oy (y := y_pick_false) (h := ?_)
         refine Oy (y := y_move) (h := ?_)
         refine Oyg (y := y_move) (h := ?_)
         refine Oyg (y := y_move) (h := ?_)
         refine Oz (h := ?_)
         refine Oz (h := ?_)
         refine Oz (h := ?_)
         refine Oz (h := ?_)
         refine OzE (h := ?_)
         refine OzE (h := ?_)
         refine Oz (h := ?_)
         refine Oyg (y := y_pick_false) (h := ?_)
         refine Oy (y := y_pick_false) (h := ?_)
         refine WO.done ?_
         refine Kcond (ht := fun h => by cases h) (hf := fun _ => ?_)
         refine WK.skip ?_
         refine WK.endBlock ?_
         refine WK.region ?_
         refine Ly y_move ?_
         refine Ly y_add ?_
         refine Ly y_assign ?_
         refine WL.done ?_
         exact Knext hN2 (k + 1) (by omega) (by omega)
        ·
         intro JP28
         refine WK.region ?_
         refine Ly y_move ?_
         refine Ly y_move ?_
         refine WL.split (d := 144) (by rfl) (fun hc144 => ?_) (fun hc144 => ?_)
         ·
          have hc144 := hb26.1 hc144
          refine Lyg y_move ?_
          refine Lyg y_geq ?_
          refine Ly y_pick_true ?_
          refine Ly y_move ?_
          refine WL.split (d := 148) (by rfl) (fun hc148 => ?_) (fun hc148 => ?_)
          ·
           have hc148 := of_decide_eq_true hc148
           refine Lyg y_move ?_
           refine Lyg y_lss ?_
           refine Ly y_pick_true ?_
           refine Ly y_assign ?_
           refine WL.done ?_
           refine Kgoto JP28 _ ?_
           exact ⟨fun h => ⟨hc144.1, hc144.2, hc148, of_decide_eq_true h⟩, fun h => decide_eq_true h.2.2.2⟩
          ·
           have hc148 := of_decide_eq_false hc148
           refine Lz ?_
           refine Lz ?_
           refine Ly y_pick_false ?_
           refine Ly y_assign ?_
           refine WL.done ?_
           refine Kgoto JP28 false ?_
           exact ⟨fun h => (by cases h), fun h => absurd h.2.2.1 hc148⟩
         ·
          have hc144 := mt hb26.2 (by rw [hc144]; simp)
          refine Lz ?_
          refine Lz ?_
          refine Ly y_pick_false ?_
          refine Ly y_move ?_
          refine Lz ?_
          refine Lz ?_
          refine Ly y_pick_false ?_
          refine Ly y_assign ?_
          refine WL.done ?_
          refine Kgoto JP28 false ?_
          exact ⟨fun h => (by cases h), fun h => absurd ⟨h.1, h.2.1.1, h.2.1.2⟩ hc144⟩
       ·
        intro JP27
        refine KdrQ (l := [(0, 0), (1, 0), (2, 0), (3, 0), (4, 0), (5, 0), (6, 0), (7, 0), (8, 0), (9, 0), (10, 0), (11, 0), (12, 0), (13, 0), (14, 0), (15, 0), (16, 0), (17, 0), (18, 0), (19, 0), (20, 0), (21, 0), (22, 0), (23, 0), (24, 0), (25, 0), (26, 0), (27, 0), (28, 0), (29, 0), (30, 0)]) (h := ?_)
        refine Oy (y := y_move) (h := ?_)
        refine Oy (y := y_move) (h := ?_)
        refine WO.split (d := 114) (by rfl) (fun hc114 => ?_) (fun hc114 => ?_)
        ·
         have hc114 := hb26.1 hc114
         refine Oyg (y := y_move) (h := ?_)
         refine Oyg (y := y_move) (h := ?_)
         refine Oyg (y := y_indexAddrS (hu := by exact Tryz.runUnderlying39) (hz := by exact Tryz.sizeOf38) (j := i) (hi := by first | rfl | omega) (hj' := by omega) (hj := by omega)) (h := ?_)
         refine Oyg (y := yld_indexAddrE (by rfl) (by rfl) (by exact Tryz.runUnderlying38) (by exact Tryz.sizeOf3) (0) (by first | rfl | omega) (by first | decide | omega) (by rfl)) (h := ?_)
         refine Oyg (y := y_loadS (ha := by exact Tryz.isAgg3) (hv := by exact flat_get prC_len hrg (j := 0) rfl rfl)) (h := ?_)
         refine Oyg (y := y_geq) (h := ?_)
         refine Oy (y := y_pick_true) (h := ?_)
         refine Oy (y := y_move) (h := ?_)
         refine WO.split (d := 122) (by rfl) (fun hc122 => ?_) (fun hc122 => ?_)
         ·
          have hc122 := of_decide_eq_true hc122
          refine Oyg (y := y_move) (h := ?_)
          refine Oyg (y := y_move) (h := ?_)
          refine Oyg (y := y_indexAddrS (hu := by exact Tryz.runUnderlying39) (hz := by exact Tryz.sizeOf38) (j := i) (hi := by first | rfl | omega) (hj' := by omega) (hj := by omega)) (h := ?_)
          refine Oyg (y := yld_indexAddrE (by rfl) (by rfl) (by exact Tryz.runUnderlying38) (by exact Tryz.sizeOf3) (1) (by first | rfl | omega) (by first | decide | omega) (by rfl)) (h := ?_)
          refine Oyg (y := y_loadS (ha := by exact Tryz.isAgg3) (hv := by exact flat_get prC_len hrg (j := 1) rfl rfl)) (h := ?_)
          refine Oyg (y := y_move) (h := ?_)
          refine Oyg (y := y_move) (h := ?_)
          refine Oyg (y := y_indexAddrS (hu := by exact Tryz.runUnderlying39) (hz := by exact Tryz.sizeOf38) (j := i) (hi := by first | rfl | omega) (hj' := by omega) (hj := by omega)) (h := ?_)
          refine Oyg (y := yld_indexAddrE (by rfl) (by rfl) (by exact Tryz.runUnderlying38) (by exact Tryz.sizeOf3) (0) (by first | rfl | omega) (by first | decide | omega) (by rfl)) (h := ?_)
          refine Oyg (y := y_loadS (ha := by exact Tryz.isAgg3) (hv := by exact flat_get prC_len hrg (j := 0) rfl rfl)) (h := ?_)
          refine Oyg (y := y_geq) (h := ?_)
          refine Oy (y := y_pick_true) (h := ?_)
          refine Oy (y := y_move) (h := ?_)
          refine WO.split (d := 135) (by rfl) (fun hc135 => ?_) (fun hc135 => ?_)
          ·
           have hc135 := of_decide_eq_true hc135
           refine Oyg (y := y_move) (h := ?_)
           refine Oyg (y := y_move) (h := ?_)
           refine Oyg (y := y_indexAddrS (hu := by exact Tryz.runUnderlying39) (hz := by exact Tryz.sizeOf38) (j := i) (hi := by first | rfl | omega) (hj' := by omega) (hj := by omega)) (h := ?_)
           refine Oyg (y := yld_indexAddrE (by rfl) (by rfl) (by exact Tryz.runUnderlying38) (by exact Tryz.sizeOf3) (1) (by first | rfl | omega) (by first | decide | omega) (by rfl)) (h := ?_)
           refine Oyg (y := y_loadS (ha := by exact Tryz.isAgg3) (hv := by exact flat_get prC_len hrg (j := 1) rfl rfl)) (h := ?_)
           refine Oyg (y := y_leq) (h := ?_)
           refine Oy (y := y_pick_true) (h := ?_)
           refine Oy (y := y_assign) (h := ?_)
           refine WO.done ?_
           refine Kgoto JP27 _ ?_
           exact ⟨fun h => ⟨hc114.1, hc114.2, hc122, hc135, of_decide_eq_true h⟩, fun h => decide_eq_true h.2.2.2.2⟩
          ·
           have hc135 := of_decide_eq_false hc135
           refine Oz (h := ?_)
           refine Oz (h := ?_)
           refine Oz (h := ?_)
           refine Oz (h := ?_)
           refine Oz (h := ?_)
           refine Oz (h := ?_)
           refine Oy (y := y_pick_false) (h := ?_)
           refine Oy (y := y_assign) (h := ?_)
           refine WO.done ?_
           refine Kgoto JP27 false ?_
           exact ⟨fun h => (by cases h), fun h => absurd h.2.2.2.1 hc135⟩
         ·
          have hc122 := of_decide_eq_false hc122
          refine Oz (h := ?_)
          refine Oz (h := ?_)
          refine Oz (h := ?_)
          refine Oz (h := ?_)
          refine Oz (h := ?_)
          refine Oz (h := ?_)
          refine Oz (h := ?_)
          refine Oz (h := ?_)
          refine Oz (h := ?_)
          refine Oz (h := ?_)
          refine Oz (h := ?_)
          refine Oy (y := y_pick_false) (h := ?_)
          refine Oy (y := y_move) (h := ?_)
          refine Oz (h := ?_)
          refine Oz (h := ?_)
          refine Oz (h := ?_)
          refine Oz (h := ?_)
          refine Oz (h := ?_)
          refine Oz (h := ?_)
          refine Oy (y := y_pick_false) (h := ?_)
          refine Oy (y := y_assign) (h := ?_)
          refine WO.done ?_
          refine Kgoto JP27 false ?_
          exact ⟨fun h => (by cases h), fun h => absurd h.2.2.1 hc122⟩
        ·
         have hc114 := mt hb26.2 (by rw [hc114]; simp)
         refine Oz (h := ?_)
         refine Oz (h := ?_)
         refine Oz (h := ?_)
         refine Oz (h := ?_)
         refine Oz (h := ?_)
         refine Oz (h := ?_)
         refine Oy (y := y_pick_false) (h := ?_)
         refine Oy (y := y_move) (h := ?_)
         refine Oz (h := ?_)
         refine Oz (h := ?_)
         refine Oz (h := ?_)
         refine Oz (h := ?_)
         refine Oz (h := ?_)
         refine Oz (h := ?_)
         refine Oz (h := ?_)
         refine Oz (h := ?_)
         refine Oz (h := ?_)
         refine Oz (h := ?_)
         refine Oz (h := ?_)
         refine Oy (y := y_pick_false) (h := ?_)
         refine Oy (y := y_move) (h := ?_)
         refine Oz (h := ?_)
         refine Oz (h := ?_)
         refine Oz (h := ?_)
         refine Oz (h := ?_)
         refine Oz (h := ?_)
         refine Oz (h := ?_)
         refine Oy (y := y_pick_false) (h := ?_)
         refine Oy (y := y_assign) (h := ?_)
         refine WO.done ?_
         refine Kgoto JP27 false ?_
         exact ⟨fun h => (by cases h), fun h => absurd ⟨h.1, h.2.1.1, h.2.1.2⟩ hc114⟩
      ·
       intro JP26
       refine WK.region ?_
       refine Ly y_move ?_
       refine Le (e_call (by exact Tryz.call14) (t := refValid_spec 12 true xad X.length xcap X (by omega))) ?_
       rintro _ -
       try dsimp only
       refine Ly y_move ?_
       refine WL.split (d := 105) (by rfl) (fun hc105 => ?_) (fun hc105 => ?_)
       ·
        have hv : VH 12 X := of_decide_eq_true hc105
        refine Lyg y_move ?_
        refine Lyg y_geq ?_
        refine Ly y_pick_true ?_
        refine Ly y_move ?_
        refine WL.split (d := 109) (by rfl) (fun hc109 => ?_) (fun hc109 => ?_)
        ·
         have hc109 := of_decide_eq_true hc109
         refine Lyg y_move ?_
         refine Lyg y_lss ?_
         refine Ly y_pick_true ?_
         refine Ly y_assign ?_
         refine WL.done ?_
         refine Kgoto JP26 _ ?_
         exact ⟨fun h => ⟨hv, hc109, of_decide_eq_true h⟩, fun h => decide_eq_true h.2.2⟩
        ·
         have hc109 := of_decide_eq_false hc109
         refine Lz ?_
         refine Lz ?_
         refine Ly y_pick_false ?_
         refine Ly y_assign ?_
         refine WL.done ?_
         refine Kgoto JP26 false ?_
         exact ⟨fun h => (by cases h), fun h => absurd h.2.1 hc109⟩
       ·
        have hv : ¬ VH 12 X := of_decide_eq_false hc105
        refine Lz ?_
        refine Lz ?_
        refine Ly y_pick_false ?_
        refine Ly y_move ?_
        refine Lz ?_
        refine Lz ?_
        refine Ly y_pick_false ?_
        refine Ly y_assign ?_
        refine WL.done ?_
        refine Kgoto JP26 false ?_
        exact ⟨fun h => (by cases h), fun h => absurd h.1 hv⟩
   ·
    have hc65 := of_decide_eq_false hc65
    refine WK.exit ?_
    repeat (first | refine XQ.then_ ?_ | refine XQ.block (by rfl) ?_)
    refine XQ.here ?_
    refine WK.endBlock ?_
    refine WK.region ?_
    refine Ly y_move ?_
    refine Ly y_add ?_
    refine Ly y_assign ?_
    refine WL.done ?_
    exact Knext hN (i + 1) (by omega) (by omega)
  ·
   have hc61 := of_decide_eq_false hc61
   refine WK.exit ?_
   repeat (first | refine XQ.then_ ?_ | refine XQ.block (by rfl) ?_)
   refine XQ.here ?_
   refine WK.seq ?_
   refine WK.region ?_
   refine Le (e_call (by exact Tryz.call17) (t := lives_spec)) ?_
   rintro _ -
   try dsimp only
   refine Ly y_assign ?_
   refine WL.done ?_
   refine WK.ret ?_
   repeat (first | refine RQ.block ?_ | refine RQ.then_ ?_)
   refine RQ.body (results1 (by rfl) (by rfl)) (fun w s => ?_)
   exact ⟨(), trivial, rfl, s.toCs (by repeat (first | exact SelL.nil | exact SelL.self | apply SelL.cons | exact Sel.here | apply Sel.there | apply SelL.skip))⟩
 ·
  intro J31
  refine Kcond (ht := fun hc31 => ?_) (hf := fun hc31 => ?_)
  ·
   refine WK.region ?_
   refine Ly y_move ?_
   refine Ly y_move ?_
   refine Ly y_move ?_
   refine Le (e_call (by exact Tryz.call11) (t := spoilt_spec true gad G.length gcap G (by omega) at_ frm h_at_)) ?_
   rintro ⟨ad35, cap35⟩ -
   dsimp only
   have hsl := spoiltM_len G at_ frm
   try dsimp only
   refine Ly y_assign ?_
   refine WL.done ?_
   exact Kgoto J31 (spoiltM G at_ frm, ad35, cap35) (by dsimp only; omega)
  ·
   refine WK.skip ?_
   exact Kgoto J31 (G, gad, gcap) hGl
end Go.Proofs.YtkakfmcjiabjjaaGreatDoor
