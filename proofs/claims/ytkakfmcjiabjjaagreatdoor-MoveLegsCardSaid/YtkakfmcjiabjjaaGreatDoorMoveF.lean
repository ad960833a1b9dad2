import Derived.Test.YtkakfmcjiabjjaaGreatDoorMovM
import Derived.Test.YtkakfmcjiabjjaaGreatDoorSepY
namespace Go.Proofs.YtkakfmcjiabjjaaGreatDoor
set_option linter.unusedVariables false
set_option linter.unusedSimpArgs false
set_option linter.unusedSectionVars false
set_option linter.unnecessarySimpa false
open Go Go.Sep
attribute [local irreducible] row sl mapO held exL allR byt mapI slr
set_option maxRecDepth 20000 in
set_option maxHeartbeats 2000000 in
theorem equal_spec (p p2 : Bool) (ad ad2 : Option Addr) (len cap len2 cap2 : Nat) (l m : List HomeM) (hlen : len ≤ 1000000) :
  Triple Tryz.prog 23 #[.slice ad len cap, .slice ad2 len2 cap2] [sl p 84 2 ad len cap (homesC l), sl p2 84 2 ad2 len2 cap2 (homesC m)] (Unit) (fun _ => True) (fun _ => .bool (decide (l = m))) (fun _ => [sl p 84 2 ad len cap (homesC l), sl p2 84 2 ad2 len2 cap2 (homesC m)]) := by
 refine Triple.of_body (args := [.slice ad len cap, .slice ad2 len2 cap2]) Tryz.func23 rfl Tryz.ntmps23 (by simp) (fun g F => ?_)
 dsimp only [numb, List.cons_append, List.nil_append]
 refine WK.know (fun w s => Sat.slLen (s.sel1 (A := sl p 84 2 ad len cap (homesC l)) (by repeat (first | exact .here | apply Sel.there)))) (fun hkn => ?_)
 obtain ⟨n1, -⟩ := hkn
 rw [homesC_len] at n1
 replace n1 : l.length = _ := Nat.eq_of_mul_eq_mul_right (by omega) n1
 refine WK.know (fun w s => Sat.slLen (s.sel1 (A := sl p2 84 2 ad2 len2 cap2 (homesC m)) (by repeat (first | exact .here | apply Sel.there)))) (fun hkn => ?_)
 obtain ⟨n2, -⟩ := hkn
 rw [homesC_len] at n2
 replace n2 : m.length = _ := Nat.eq_of_mul_eq_mul_right (by omega) n2
 refine WK.seq ?_
 refine WK.region ?_
 refine Ly y_assign ?_
 refine WL.done ?_
 refine WK.seq ?_
 refine WK.seq ?_
 refine WK.region ?_
 refine Ly y_move ?_
 refine Ly (y_len (hu := by exact Tryz.runUnderlying30)) ?_
 refine Ly y_move ?_
 refine Ly (y_len (hu := by exact Tryz.runUnderlying30)) ?_
 refine Ly y_neq ?_
 refine WL.done ?_
 refine Kcond (ht := fun hc10 => ?_) (hf := fun hc10 => ?_)
 ·
  have hc10 := of_decide_eq_true hc10
  refine WK.seq ?_
  refine WK.region ?_
  refine Ly y_assign ?_
  refine WL.done ?_
  refine WK.ret ?_
  repeat (first | refine RQ.block ?_ | refine RQ.then_ ?_)
  refine RQ.body (results1 (by rfl) (by rfl)) (fun w s => ?_)
  refine ⟨(), trivial, ?_, s.toCs (by repeat (first | exact SelL.nil | exact SelL.self | apply SelL.cons | exact Sel.here | apply Sel.there | apply SelL.skip))⟩
  rw [decide_eq_false (fun e => by have := congrArg List.length e; omega)]
 ·
  have hc10 := of_decide_eq_false hc10
  refine WK.skip ?_
  refine WK.seq ?_
  refine WK.seq ?_
  refine WK.region ?_
  refine Ly y_assign ?_
  refine WL.done ?_
  refine WK.block ?_
  refine Kloop (ι := Nat) (fun i => i ≤ len ∧ ∀ (j : Nat) (x y : HomeM), j < i → l[j]? = some x → m[j]? = some y → x.frm = y.frm ∧ x.shard = y.shard) (fun i => [(0, .slice ad len cap), (1, .slice ad2 len2 cap2), (5, .int .i64 (i : Int))]) (fun _ => sl p 84 2 ad len cap (homesC l) :: sl p2 84 2 ad2 len2 cap2 (homesC m) :: F) (fun i => len - i) (0) (⟨Nat.zero_le _, fun j x y h => absurd h (Nat.not_lt_zero _)⟩) (round := ?_)
  rintro i ⟨hi, hok⟩ N hN
  refine WK.seq ?_
  refine WK.seq ?_
  refine WK.region ?_
  refine Ly y_move ?_
  refine Ly y_move ?_
  refine Ly (y_len (hu := by exact Tryz.runUnderlying30)) ?_
  refine Ly y_lss ?_
  refine WL.done ?_
  refine Kcond (ht := fun hc14 => ?_) (hf := fun hc14 => ?_)
  ·
   have hc14 := of_decide_eq_true hc14
   obtain ⟨x, hx⟩ : ∃ x, l[i]? = some x := ⟨_, List.getElem?_eq_getElem (by omega)⟩
   obtain ⟨y, hy⟩ : ∃ x, m[i]? = some x := ⟨_, List.getElem?_eq_getElem (by omega)⟩
   refine WK.skip ?_
   refine WK.seq ?_
   refine WK.block ?_
   refine WK.seq ?_
   refine KdrQ (l := [(0, 0), (1, 0), (2, 0), (3, 0), (4, 0), (5, 0), (6, 0), (7, 0), (8, 0)]) (h := ?_)
   refine Oy (y := y_move) (h := ?_)
   refine Oy (y := y_move) (h := ?_)
   refine Oy (y := y_indexAddrS (hu := by exact Tryz.runUnderlying30) (hz := by exact Tryz.sizeOf84) (j := i) (hi := by first | rfl | omega) (hj' := by omega) (hj := by omega)) (h := ?_)
   refine Oy (y := y_loadSA (ha := by exact Tryz.isAgg84) (hm := by exact Tryz.sizeOf84) (hv := by exact homesC_cells hx)) (h := ?_)
   refine Oy (y := y_move) (h := ?_)
   refine Oy (y := y_move) (h := ?_)
   refine Oy (y := y_indexAddrS (hu := by exact Tryz.runUnderlying30) (hz := by exact Tryz.sizeOf84) (j := i) (hi := by first | rfl | omega) (hj' := by omega) (hj := by omega)) (h := ?_)
   refine Oy (y := y_loadSA (ha := by exact Tryz.isAgg84) (hm := by exact Tryz.sizeOf84) (hv := by exact homesC_cells hy)) (h := ?_)
   refine Oy (y := yld_neqS2 (by rfl) (by rfl) (by exact Tryz.runUnderlying84) (by kernel_rfl) (by kernel_rfl) (by decide) (by decide) (by rfl) (by rfl) (by exact Tryz.runUnderlying3) (by exact Tryz.runUnderlying3) (by exact Tryz.isAgg3) (by exact Tryz.isAgg3)) (h := ?_)
   refine WO.done ?_
   refine Kcond (ht := fun hc25 => ?_) (hf := fun hc25 => ?_)
   ·
    have hc25 := not_true_of hc25; have hc25 := of_decide_eq_false hc25
    refine WK.seq ?_
    refine WK.region ?_
    refine Ly y_assign ?_
    refine WL.done ?_
    refine WK.ret ?_
    repeat (first | refine RQ.block ?_ | refine RQ.then_ ?_)
    refine RQ.body (results1 (by rfl) (by rfl)) (fun w s => ?_)
    refine ⟨(), trivial, ?_, s.toCs (by repeat (first | exact SelL.nil | exact SelL.self | apply SelL.cons | exact Sel.here | apply Sel.there | apply SelL.skip))⟩
    rw [decide_eq_false]
    rintro rfl
    cases hx.symm.trans hy
    exact hc25 ⟨rfl, rfl⟩
   ·
    have hc25 := not_false_of hc25; have hc25 := of_decide_eq_true hc25
    refine WK.skip ?_
    refine WK.endBlock ?_
    refine WK.region ?_
    refine Ly y_move ?_
    refine Ly y_add ?_
    refine Ly y_assign ?_
    refine WL.done ?_
    refine Knext hN (i + 1) ⟨by omega, fun j x1 y1 hj h1 h2 => ?_⟩ (by omega)
    by_cases hji : j = i
    · subst hji
      cases hx.symm.trans h1
      cases hy.symm.trans h2
      exact hc25
    · exact hok j x1 y1 (by omega) h1 h2
  ·
   have hc14 := of_decide_eq_false hc14
   refine WK.exit ?_
   repeat (first | refine XQ.then_ ?_ | refine XQ.block (by rfl) ?_)
   refine XQ.here ?_
   refine WK.seq ?_
   refine WK.region ?_
   refine Ly y_assign ?_
   refine WL.done ?_
   refine WK.ret ?_
   repeat (first | refine RQ.block ?_ | refine RQ.then_ ?_)
   refine RQ.body (results1 (by rfl) (by rfl)) (fun w s => ?_)
   refine ⟨(), trivial, ?_, s.toCs (by repeat (first | exact SelL.nil | exact SelL.self | apply SelL.cons | exact Sel.here | apply Sel.there | apply SelL.skip))⟩
   rw [decide_eq_true (homes_eq (by omega) fun j x y h1 h2 => hok j x y (by have := (List.getElem?_eq_some_iff.1 h1).1; omega) h1 h2)]
end Go.Proofs.YtkakfmcjiabjjaaGreatDoor
