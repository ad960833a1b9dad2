import Derived.Test.YtnknclbiamhnaaaWireA
import Derived.Test.YtnknclbiamhnaaaSepS
namespace Go.Proofs.Ytnknclbiamhnaaa
set_option linter.unusedVariables false
set_option linter.unusedSimpArgs false
set_option linter.unusedSectionVars false
open Go Go.Sep
attribute [local irreducible] row sl mapO held exL allR byt mapI slr
set_option maxRecDepth 20000 in
set_option maxHeartbeats 2000000 in
theorem list_spec (q : Nat) (bs : List UInt8) (e : Int) (hb : e = 0 → bs.length ≤ 1000000) :
    Triple Try.prog 59 #[.pointer (some ⟨q, 0, none⟩), .func (.func 60) #[.pointer (some ⟨q, 0, none⟩)] #[]] [rdR q bs e] ((List UInt8 × Int) × (Option Addr × Nat × Nat)) (fun x => match rawE bs e with | some r => x.1 = (r.2, 0) ∧ x.2.2.1 = r.1.length | none => x.1.2 ≠ 0 ∧ x.2 = (none, 0, 0)) (fun x => .slice x.2.1 x.2.2.1 x.2.2.2) (fun x => [rdR q x.1.1 x.1.2, sl true 5 1 x.2.1 x.2.2.1 x.2.2.2 ((rawV bs e).map bv)]) := by
  refine Triple.of_body (args := [.pointer (some ⟨q, 0, none⟩), .func (.func 60) #[.pointer (some ⟨q, 0, none⟩)] #[]]) Try.func59 rfl Try.ntmps59 (by simp) (fun g F => ?_)
  dsimp only [numb, List.cons_append, List.nil_append]
  refine WK.seq ?_
  refine WK.region ?_
  refine WL.yld (wanted_plain (by rfl)) (yld_assign (by rfl)) (by rfl) (by decide) ?_
  refine WL.done ?_
  refine WK.seq ?_
  refine WK.region ?_
  refine WL.yld (wanted_plain (by rfl)) (yld_move (by rfl)) (by rfl) (by decide) ?_
  refine WL.eff (wanted_plain (by rfl)) (eff_call (by exact Try.call37) (by repeat (first | exact Evs.nil | apply Evs.cons | rfl)) (by repeat (first | exact SelL.nil | exact SelL.self | apply SelL.cons | exact Sel.here | apply Sel.there | apply SelL.skip)) (rdUint_spec q bs e)) (by rfl) (by decide) ?_
  rintro ⟨bs1, e1⟩ hx9
  try dsimp only
  refine WL.yld (wanted_plain (by rfl)) (yld_assign (by rfl)) (by rfl) (by decide) ?_
  refine WL.done ?_
  refine WK.seq ?_
  refine WK.seq ?_
  rcases hu : uintE bs e with _ | ⟨n, r⟩
  · skip
    rw [hu] at hx9
    have hr : rawE bs e = none := by unfold rawE; rw [hu]
    rw [show rawV bs e = [] from by unfold rawV; rw [hr]; rfl, hr]
    dsimp only [Option.map, Option.getD] at hx9 ⊢
    refine WK.openS (fun w s => Sat.rdOpen (s.sel1 (A := rdR q bs1 e1) (by repeat (first | exact .here | apply Sel.there)))) ?_
    rintro ⟨ad, len, cap⟩ -
    dsimp only [rdL, List.cons_append, List.nil_append]
    refine WK.region ?_
    refine WL.yld (wanted_plain (by rfl)) (yld_move (by rfl)) (by rfl) (by decide) ?_
    refine WL.yld (wanted_plain (by rfl)) (yld_move (by rfl)) (by rfl) (by decide) ?_
    refine WL.yld (wanted_plain (by rfl)) (yld_nilCheck (by rfl)) (by rfl) (by decide) ?_
    refine WL.yld (wanted_plain (by rfl)) (yld_fieldAddr (by rfl) (by exact Try.runUnderlying101) (by rfl) (by exact Try.sizeOf31) (by rfl) (by rfl)) (by rfl) (by decide) ?_
    refine WL.yld (wanted_plain (by rfl)) (yld_load (by rfl) (by exact Try.isAgg31) (by repeat (first | exact .here | apply Sel.there)) (by rfl)) (by rfl) (by decide) ?_
    refine WL.yld (wanted_plain (by rfl)) (yld_len (by rfl) (by exact Try.runUnderlying31)) (by rfl) (by decide) ?_
    refine WL.yld (wanted_plain (by rfl)) (yld_convInt (by rfl) (by exact Try.runUnderlying3) (by exact Try.runUnderlying75) (by rfl)) (by rfl) (by decide) ?_
    refine WL.yld (wanted_plain (by rfl)) (yld_gtr (by rfl) (by rfl)) (by rfl) (by decide) ?_
    refine WL.done ?_
    refine WK.cond (by rfl) (fun hc17 => ?_) (fun hc17 => ?_)
    · skip
      have hc17 := of_decide_eq_true hc17
      rw [u64wrap] at hc17
      omega
    · skip
      have hc17 := of_decide_eq_false hc17
      refine WK.skip ?_
      refine WK.seq ?_
      refine WK.sat (fun w s => Sat.rdShut ⟨ad, len, cap⟩ (s.sel (As := rdL q bs1 e1 ⟨ad, len, cap⟩) (by dsimp only [rdL]; exact (by repeat (first | exact SelL.nil | exact SelL.self | apply SelL.cons | exact Sel.here | apply Sel.there | apply SelL.skip))))) ?_
      refine WK.region ?_
      refine WL.yld (wanted_plain (by rfl)) (yld_assign (by rfl)) (by rfl) (by decide) ?_
      refine WL.done ?_
      refine WK.seq ?_
      refine WK.seq ?_
      refine WK.region ?_
      refine WL.yld (wanted_plain (by rfl)) (yld_assign (by rfl)) (by rfl) (by decide) ?_
      refine WL.done ?_
      refine WK.block ?_
      refine WK.loop (ι := Unit) (fun _ => True) (fun _ => [(0, .pointer (some ⟨q, 0, none⟩)), (1, .func (.func 60) #[.pointer (some ⟨q, 0, none⟩)] #[]), (5, .int .u64 0), (6, .slice none 0 0), (7, .int .u64 0)]) (fun _ => rdR q bs1 e1 :: F) (fun _ => 0) (()) (trivial) (by repeat (first | exact KK.nil | refine KK.cons (by first | rfl | (simp; done)) ?_)) (by repeat (first | exact SelL.nil | exact SelL.self | apply SelL.cons | exact Sel.here | apply Sel.there | apply SelL.skip)) ?_
      rintro _ - N hN
      refine WK.seq ?_
      refine WK.seq ?_
      refine WK.openS (fun w s => Sat.rdOpen (s.sel1 (A := rdR q bs1 e1) (by repeat (first | exact .here | apply Sel.there)))) ?_
      rintro ⟨ad, len, cap⟩ -
      dsimp only [rdL, List.cons_append, List.nil_append]
      refine WK.region ?_
      refine WL.yld (wanted_plain (by rfl)) (yld_move (by rfl)) (by rfl) (by decide) ?_
      refine WL.yld (wanted_plain (by rfl)) (yld_move (by rfl)) (by rfl) (by decide) ?_
      refine WL.yld (wanted_plain (by rfl)) (yld_lss (by rfl) (by rfl)) (by rfl) (by decide) ?_
      refine WL.yld (wanted_plain (by rfl)) (yld_move (by rfl)) (by rfl) (by decide) ?_
      refine WL.split (d := 23) (by rfl) (fun hc23 => ?_) (fun hc23 => ?_)
      · skip
        have hc23 := of_decide_eq_true hc23
        omega
      · skip
        have hc23 := of_decide_eq_false hc23
        refine WL.skip (unwanted_some (by rfl) (by rfl) (by rfl) (by rfl)) (by rfl) (by decide) ?_
        refine WL.skip (unwanted_some (by rfl) (by rfl) (by rfl) (by rfl)) (by rfl) (by decide) ?_
        refine WL.skip (unwanted_some (by rfl) (by rfl) (by rfl) (by rfl)) (by rfl) (by decide) ?_
        refine WL.skip (unwanted_some (by rfl) (by rfl) (by rfl) (by rfl)) (by rfl) (by decide) ?_
        refine WL.skip (unwanted_some (by rfl) (by rfl) (by rfl) (by rfl)) (by rfl) (by decide) ?_
        refine WL.yld (wanted_plain (by rfl)) (yld_pick_false (by rfl) (by rfl)) (by rfl) (by decide) ?_
        refine WL.done ?_
        refine WK.cond (by rfl) (fun h => by cases h) (fun _ => ?_)
        refine WK.exit ?_
        repeat (first | refine XQ.then_ ?_ | refine XQ.block (by rfl) ?_)
        refine XQ.here ?_
        refine WK.seq ?_
        refine WK.seq ?_
        refine WK.region ?_
        refine WL.yld (wanted_plain (by rfl)) (yld_move (by rfl)) (by rfl) (by decide) ?_
        refine WL.yld (wanted_plain (by rfl)) (yld_nilCheck (by rfl)) (by rfl) (by decide) ?_
        refine WL.yld (wanted_plain (by rfl)) (yld_fieldAddr (by rfl) (by exact Try.runUnderlying101) (by rfl) (by exact Try.sizeOf32) (by rfl) (by rfl)) (by rfl) (by decide) ?_
        refine WL.yld (wanted_plain (by rfl)) (yld_load (by rfl) (by exact Try.isAgg32) (by repeat (first | exact .here | apply Sel.there)) (by rfl)) (by rfl) (by decide) ?_
        refine WL.yld (wanted_plain (by rfl)) (yld_neq (by rfl) (by rfl)) (by rfl) (by decide) ?_
        refine WL.done ?_
        refine WK.cond (by rfl) (fun hc41 => ?_) (fun hc41 => ?_)
        · skip
          have hc41 := of_decide_eq_true hc41
          refine WK.seq ?_
          refine WK.region ?_
          refine WL.yld (wanted_plain (by rfl)) (yld_assign (by rfl)) (by rfl) (by decide) ?_
          refine WL.done ?_
          refine WK.ret ?_
          repeat (first | refine RQ.block ?_ | refine RQ.then_ ?_)
          refine RQ.body (results1 (by rfl) (by rfl)) (fun w s => ?_)
          refine ⟨((bs1, e1), (none, 0, 0)), ⟨hx9, rfl⟩, rfl, ?_⟩
          exact Sat.toCs (Sat.nilSl (Sat.rdShut ⟨ad, len, cap⟩ (s.sel (As := rdL q bs1 e1 ⟨ad, len, cap⟩) (by dsimp only [rdL]; exact (by repeat (first | exact SelL.nil | exact SelL.self | apply SelL.cons | exact Sel.here | apply Sel.there | apply SelL.skip))))) true 5 1) (by repeat (first | exact SelL.nil | exact SelL.self | apply SelL.cons | exact Sel.here | apply Sel.there | apply SelL.skip))
        · skip
          have hc41 := of_decide_eq_false hc41
          omega
  · skip
    obtain ⟨hn, hrl⟩ := uintE_some hu
    have hb := hb (uintE_e hu)
    rw [hu] at hx9
    cases hx9
    dsimp only [Option.map, Option.getD]
    refine WK.openS (fun w s => Sat.rdOpen (s.sel1 (A := rdR q r 0) (by repeat (first | exact .here | apply Sel.there)))) ?_
    rintro ⟨ad, len, cap⟩ -
    dsimp only [rdL, List.cons_append, List.nil_append]
    refine WK.know (fun w s => Sat.slLen (s.sel1 (A := sl true 5 1 ad len cap (r.map bv)) (by repeat (first | exact .here | apply Sel.there)))) (fun hkn => ?_)
    obtain ⟨n1, -⟩ := hkn
    simp only [Nat.mul_one, List.length_map] at n1
    refine WK.region ?_
    refine WL.yld (wanted_plain (by rfl)) (yld_move (by rfl)) (by rfl) (by decide) ?_
    refine WL.yld (wanted_plain (by rfl)) (yld_move (by rfl)) (by rfl) (by decide) ?_
    refine WL.yld (wanted_plain (by rfl)) (yld_nilCheck (by rfl)) (by rfl) (by decide) ?_
    refine WL.yld (wanted_plain (by rfl)) (yld_fieldAddr (by rfl) (by exact Try.runUnderlying101) (by rfl) (by exact Try.sizeOf31) (by rfl) (by rfl)) (by rfl) (by decide) ?_
    refine WL.yld (wanted_plain (by rfl)) (yld_load (by rfl) (by exact Try.isAgg31) (by repeat (first | exact .here | apply Sel.there)) (by rfl)) (by rfl) (by decide) ?_
    refine WL.yld (wanted_plain (by rfl)) (yld_len (by rfl) (by exact Try.runUnderlying31)) (by rfl) (by decide) ?_
    refine WL.yld (wanted_plain (by rfl)) (yld_convInt (by rfl) (by exact Try.runUnderlying3) (by exact Try.runUnderlying75) (show IntKind.u64.wrap (len : Int) = (len : Int) from by rw [u64wrap, Nat.mod_eq_of_lt (by omega)])) (by rfl) (by decide) ?_
    refine WL.yld (wanted_plain (by rfl)) (yld_gtr (by rfl) (by rfl)) (by rfl) (by decide) ?_
    refine WL.done ?_
    refine WK.cond (by rfl) (fun hc17 => ?_) (fun hc17 => ?_)
    · skip
      have hc17 := of_decide_eq_true hc17
      have hr : rawE bs e = none := by unfold rawE; rw [hu]; exact if_neg (by omega)
      rw [show rawV bs e = [] from by unfold rawV; rw [hr]; rfl, hr]
      · skip
        refine WK.sat (fun w s => Sat.rdShut ⟨ad, len, cap⟩ (s.sel (As := rdL q r 0 ⟨ad, len, cap⟩) (by dsimp only [rdL]; exact (by repeat (first | exact SelL.nil | exact SelL.self | apply SelL.cons | exact Sel.here | apply Sel.there | apply SelL.skip))))) ?_
        refine WK.region ?_
        refine WL.yld (wanted_plain (by rfl)) (yld_move (by rfl)) (by rfl) (by decide) ?_
        refine WL.eff (wanted_plain (by rfl)) (eff_call (by exact Try.call61) (by repeat (first | exact Evs.nil | apply Evs.cons | rfl)) (by repeat (first | exact SelL.nil | exact SelL.self | apply SelL.cons | exact Sel.here | apply Sel.there | apply SelL.skip)) (rdFail_spec q r 0 3)) (by rfl) (by decide) ?_
        rintro _ -
        rw [show failE 0 3 = 3 from rfl]
        try dsimp only
        refine WL.done ?_
        refine WK.seq ?_
        skip
        refine WK.region ?_
        refine WL.yld (wanted_plain (by rfl)) (yld_assign (by rfl)) (by rfl) (by decide) ?_
        refine WL.done ?_
        refine WK.seq ?_
        refine WK.seq ?_
        refine WK.region ?_
        refine WL.yld (wanted_plain (by rfl)) (yld_assign (by rfl)) (by rfl) (by decide) ?_
        refine WL.done ?_
        refine WK.block ?_
        refine WK.loop (ι := Unit) (fun _ => True) (fun _ => [(0, .pointer (some ⟨q, 0, none⟩)), (1, .func (.func 60) #[.pointer (some ⟨q, 0, none⟩)] #[]), (5, .int .u64 (n : Int)), (6, .slice none 0 0), (7, .int .u64 0)]) (fun _ => rdR q r 3 :: F) (fun _ => 0) (()) (trivial) (by repeat (first | exact KK.nil | refine KK.cons (by first | rfl | (simp; done)) ?_)) (by repeat (first | exact SelL.nil | exact SelL.self | apply SelL.cons | exact Sel.here | apply Sel.there | apply SelL.skip)) ?_
        rintro _ - N hN
        refine WK.seq ?_
        refine WK.seq ?_
        refine WK.openS (fun w s => Sat.rdOpen (s.sel1 (A := rdR q r 3) (by repeat (first | exact .here | apply Sel.there)))) ?_
        rintro ⟨ad, len, cap⟩ -
        dsimp only [rdL, List.cons_append, List.nil_append]
        refine WK.region ?_
        refine WL.yld (wanted_plain (by rfl)) (yld_move (by rfl)) (by rfl) (by decide) ?_
        refine WL.yld (wanted_plain (by rfl)) (yld_move (by rfl)) (by rfl) (by decide) ?_
        refine WL.yld (wanted_plain (by rfl)) (yld_lss (by rfl) (by rfl)) (by rfl) (by decide) ?_
        refine WL.yld (wanted_plain (by rfl)) (yld_move (by rfl)) (by rfl) (by decide) ?_
        refine WL.split (d := 23) (by rfl) (fun hc23 => ?_) (fun hc23 => ?_)
        · skip
          have hc23 := of_decide_eq_true hc23
          refine WL.yld (wanted_some (by rfl) (by rfl) (by rfl)) (yld_move (by rfl)) (by rfl) (by decide) ?_
          refine WL.yld (wanted_some (by rfl) (by rfl) (by rfl)) (yld_nilCheck (by rfl)) (by rfl) (by decide) ?_
          refine WL.yld (wanted_some (by rfl) (by rfl) (by rfl)) (yld_fieldAddr (by rfl) (by exact Try.runUnderlying101) (by rfl) (by exact Try.sizeOf32) (by rfl) (by rfl)) (by rfl) (by decide) ?_
          refine WL.yld (wanted_some (by rfl) (by rfl) (by rfl)) (yld_load (by rfl) (by exact Try.isAgg32) (by repeat (first | exact .here | apply Sel.there)) (by rfl)) (by rfl) (by decide) ?_
          refine WL.yld (wanted_some (by rfl) (by rfl) (by rfl)) (yld_eql (by rfl) (by rfl)) (by rfl) (by decide) ?_
          refine WL.yld (wanted_plain (by rfl)) (yld_pick_true (by rfl) (by rfl)) (by rfl) (by decide) ?_
          refine WL.done ?_
          refine WK.cond (by rfl) (fun hc29 => ?_) (fun hc29 => ?_)
          · skip
            have hc29 := of_decide_eq_true hc29
            omega
          · skip
            have hc29 := of_decide_eq_false hc29
            refine WK.exit ?_
            repeat (first | refine XQ.then_ ?_ | refine XQ.block (by rfl) ?_)
            refine XQ.here ?_
            refine WK.seq ?_
            refine WK.seq ?_
            refine WK.region ?_
            refine WL.yld (wanted_plain (by rfl)) (yld_move (by rfl)) (by rfl) (by decide) ?_
            refine WL.yld (wanted_plain (by rfl)) (yld_nilCheck (by rfl)) (by rfl) (by decide) ?_
            refine WL.yld (wanted_plain (by rfl)) (yld_fieldAddr (by rfl) (by exact Try.runUnderlying101) (by rfl) (by exact Try.sizeOf32) (by rfl) (by rfl)) (by rfl) (by decide) ?_
            refine WL.yld (wanted_plain (by rfl)) (yld_load (by rfl) (by exact Try.isAgg32) (by repeat (first | exact .here | apply Sel.there)) (by rfl)) (by rfl) (by decide) ?_
            refine WL.yld (wanted_plain (by rfl)) (yld_neq (by rfl) (by rfl)) (by rfl) (by decide) ?_
            refine WL.done ?_
            refine WK.cond (by rfl) (fun hc41 => ?_) (fun hc41 => ?_)
            · skip
              have hc41 := of_decide_eq_true hc41
              refine WK.seq ?_
              refine WK.region ?_
              refine WL.yld (wanted_plain (by rfl)) (yld_assign (by rfl)) (by rfl) (by decide) ?_
              refine WL.done ?_
              refine WK.ret ?_
              repeat (first | refine RQ.block ?_ | refine RQ.then_ ?_)
              refine RQ.body (results1 (by rfl) (by rfl)) (fun w s => ?_)
              refine ⟨((r, 3), (none, 0, 0)), ⟨by simp, rfl⟩, rfl, ?_⟩
              exact Sat.toCs (Sat.nilSl (Sat.rdShut ⟨ad, len, cap⟩ (s.sel (As := rdL q r 3 ⟨ad, len, cap⟩) (by dsimp only [rdL]; exact (by repeat (first | exact SelL.nil | exact SelL.self | apply SelL.cons | exact Sel.here | apply Sel.there | apply SelL.skip))))) true 5 1) (by repeat (first | exact SelL.nil | exact SelL.self | apply SelL.cons | exact Sel.here | apply Sel.there | apply SelL.skip))
            · skip
              have hc41 := of_decide_eq_false hc41
              omega
        · skip
          have hc23 := of_decide_eq_false hc23
          omega
    · skip
      have hc17 := of_decide_eq_false hc17
      have hr : rawE bs e = some (r.take n, r.drop n) := by unfold rawE; rw [hu]; exact if_pos (by omega)
      rw [show rawV bs e = r.take n from by unfold rawV; rw [hr]; rfl, hr]
      refine WK.skip ?_
      refine WK.seq ?_
      refine WK.sat (fun w s => Sat.rdShut ⟨ad, len, cap⟩ (s.sel (As := rdL q r 0 ⟨ad, len, cap⟩) (by dsimp only [rdL]; exact (by repeat (first | exact SelL.nil | exact SelL.self | apply SelL.cons | exact Sel.here | apply Sel.there | apply SelL.skip))))) ?_
      refine WK.region ?_
      refine WL.yld (wanted_plain (by rfl)) (yld_assign (by rfl)) (by rfl) (by decide) ?_
      refine WL.done ?_
      refine WK.seq ?_
      refine WK.seq ?_
      refine WK.region ?_
      refine WL.yld (wanted_plain (by rfl)) (yld_assign (by rfl)) (by rfl) (by decide) ?_
      refine WL.done ?_
      refine WK.block ?_
      refine WK.sat (fun w s => Sat.nilSl s true 5 1) ?_
      refine WK.loop (ι := Nat × Option Addr × Nat) (fun x => x.1 ≤ n) (fun x => [(0, .pointer (some ⟨q, 0, none⟩)), (1, .func (.func 60) #[.pointer (some ⟨q, 0, none⟩)] #[]), (5, .int .u64 (n : Int)), (6, .slice x.2.1 x.1 x.2.2), (7, .int .u64 (x.1 : Int))]) (fun x => rdR q (r.drop x.1) 0 :: sl true 5 1 x.2.1 x.1 x.2.2 ((r.take x.1).map bv) :: F) (fun x => n - x.1) ((0, none, 0)) (Nat.zero_le _) (by repeat (first | exact KK.nil | refine KK.cons (by first | rfl | (simp; done)) ?_)) (by dsimp only; rw [List.drop_zero, List.take_zero, List.map_nil]; exact (by repeat (first | exact SelL.nil | exact SelL.self | apply SelL.cons | exact Sel.here | apply Sel.there | apply SelL.skip))) ?_
      rintro ⟨i, ad2, cap2⟩ hi N hN
      dsimp only at hi ⊢
      refine WK.seq ?_
      refine WK.seq ?_
      refine WK.openS (fun w s => Sat.rdOpen (s.sel1 (A := rdR q (r.drop i) 0) (by repeat (first | exact .here | apply Sel.there)))) ?_
      rintro ⟨ad, len, cap⟩ -
      dsimp only [rdL, List.cons_append, List.nil_append]
      refine WK.region ?_
      refine WL.yld (wanted_plain (by rfl)) (yld_move (by rfl)) (by rfl) (by decide) ?_
      refine WL.yld (wanted_plain (by rfl)) (yld_move (by rfl)) (by rfl) (by decide) ?_
      refine WL.yld (wanted_plain (by rfl)) (yld_lss (by rfl) (by rfl)) (by rfl) (by decide) ?_
      refine WL.yld (wanted_plain (by rfl)) (yld_move (by rfl)) (by rfl) (by decide) ?_
      refine WL.split (d := 23) (by rfl) (fun hc23 => ?_) (fun hc23 => ?_)
      · skip
        have hc23 := of_decide_eq_true hc23
        refine WL.yld (wanted_some (by rfl) (by rfl) (by rfl)) (yld_move (by rfl)) (by rfl) (by decide) ?_
        refine WL.yld (wanted_some (by rfl) (by rfl) (by rfl)) (yld_nilCheck (by rfl)) (by rfl) (by decide) ?_
        refine WL.yld (wanted_some (by rfl) (by rfl) (by rfl)) (yld_fieldAddr (by rfl) (by exact Try.runUnderlying101) (by rfl) (by exact Try.sizeOf32) (by rfl) (by rfl)) (by rfl) (by decide) ?_
        refine WL.yld (wanted_some (by rfl) (by rfl) (by rfl)) (yld_load (by rfl) (by exact Try.isAgg32) (by repeat (first | exact .here | apply Sel.there)) (by rfl)) (by rfl) (by decide) ?_
        refine WL.yld (wanted_some (by rfl) (by rfl) (by rfl)) (yld_eql (by rfl) (by rfl)) (by rfl) (by decide) ?_
        refine WL.yld (wanted_plain (by rfl)) (yld_pick_true (by rfl) (by rfl)) (by rfl) (by decide) ?_
        refine WL.done ?_
        refine WK.cond (by rfl) (fun hc29 => ?_) (fun hc29 => ?_)
        · skip
          have hc29 := of_decide_eq_true hc29
          obtain ⟨c, hc⟩ : ∃ c, r[i]? = some c := ⟨_, List.getElem?_eq_getElem (by omega)⟩
          refine WK.skip ?_
          refine WK.seq ?_
          refine WK.block ?_
          refine WK.sat (fun w s => Sat.rdShut ⟨ad, len, cap⟩ (s.sel (As := rdL q (r.drop i) 0 ⟨ad, len, cap⟩) (by dsimp only [rdL]; exact (by repeat (first | exact SelL.nil | exact SelL.self | apply SelL.cons | exact Sel.here | apply Sel.there | apply SelL.skip))))) ?_
          refine WK.region ?_
          refine WL.yld (wanted_plain (by rfl)) (yld_move (by rfl)) (by rfl) (by decide) ?_
          refine WL.yld (wanted_plain (by rfl)) (yld_move (by rfl)) (by rfl) (by decide) ?_
          refine WL.eff (wanted_plain (by rfl)) (eff_callB (f := 60) (by rfl) (by exact Try.call60) (by repeat (first | exact Evs.nil | apply Evs.cons | rfl)) (by repeat (first | exact SelL.nil | exact SelL.self | apply SelL.cons | exact Sel.here | apply Sel.there | apply SelL.skip)) (by rfl) (rdNext_spec q (r.drop i) 0)) (by rfl) (by decide) ?_
          rintro _ -
          rw [nextM_drop hc]
          dsimp only
          try dsimp only
          refine WL.eff (wanted_plain (by rfl)) (eff_mkSlice1 (by rfl) (by rfl) (by exact Try.runUnderlying31) (by exact Try.sizeOf5) (by exact Try.zeroValue5) (by rfl) (by rfl) (by decide) (by rfl)) (by rfl) (by decide) ?_
          rintro b35 -
          try dsimp only
          refine WL.eff (wanted_plain (by rfl)) (eff_append (by rfl) (by rfl) (by exact elem31) (by exact Try.underlying31) (by repeat (first | exact SelL.nil | exact SelL.self | apply SelL.cons | exact Sel.here | apply Sel.there | apply SelL.skip)) (by omega) (by omega)) (by rfl) (by decide) ?_
          rintro ⟨ad36, cap36⟩ -
          try dsimp only
          refine WL.yld (wanted_plain (by rfl)) (yld_assign (by rfl)) (by rfl) (by decide) ?_
          refine WL.done ?_
          refine WK.endBlock ?_
          refine WK.region ?_
          refine WL.yld (wanted_plain (by rfl)) (yld_move (by rfl)) (by rfl) (by decide) ?_
          refine WL.yld (wanted_plain (by rfl)) (yld_add (by rfl) (by rfl) (show IntKind.u64.wrap ((i : Int) + 1) = ((i + 1 : Nat) : Int) from by rw [show ((i : Int) + 1) = ((i + 1 : Nat) : Int) from rfl, u64wrap, Nat.mod_eq_of_lt (by omega)])) (by rfl) (by decide) ?_
          refine WL.yld (wanted_plain (by rfl)) (yld_assign (by rfl)) (by rfl) (by decide) ?_
          refine WL.done ?_
          apply WK.next hN (i + 1, ad36, cap36) (by dsimp only; omega) (by dsimp only; omega) (by repeat (first | exact KK.nil | refine KK.cons (by first | rfl | (simp; done)) ?_))
          dsimp only
          rw [List.take_add_one, hc, List.map_append]
          exact (by repeat (first | exact SelL.nil | exact SelL.self | apply SelL.cons | exact Sel.here | apply Sel.there | apply SelL.skip))
        · skip
          have hc29 := of_decide_eq_false hc29
          exact (hc29 rfl).elim
      · skip
        have hc23 := of_decide_eq_false hc23
        refine WL.skip (unwanted_some (by rfl) (by rfl) (by rfl) (by rfl)) (by rfl) (by decide) ?_
        refine WL.skip (unwanted_some (by rfl) (by rfl) (by rfl) (by rfl)) (by rfl) (by decide) ?_
        refine WL.skip (unwanted_some (by rfl) (by rfl) (by rfl) (by rfl)) (by rfl) (by decide) ?_
        refine WL.skip (unwanted_some (by rfl) (by rfl) (by rfl) (by rfl)) (by rfl) (by decide) ?_
        refine WL.skip (unwanted_some (by rfl) (by rfl) (by rfl) (by rfl)) (by rfl) (by decide) ?_
        refine WL.yld (wanted_plain (by rfl)) (yld_pick_false (by rfl) (by rfl)) (by rfl) (by decide) ?_
        refine WL.done ?_
        refine WK.cond (by rfl) (fun h => by cases h) (fun _ => ?_)
        refine WK.exit ?_
        repeat (first | refine XQ.then_ ?_ | refine XQ.block (by rfl) ?_)
        refine XQ.here ?_
        refine WK.seq ?_
        refine WK.seq ?_
        refine WK.region ?_
        refine WL.yld (wanted_plain (by rfl)) (yld_move (by rfl)) (by rfl) (by decide) ?_
        refine WL.yld (wanted_plain (by rfl)) (yld_nilCheck (by rfl)) (by rfl) (by decide) ?_
        refine WL.yld (wanted_plain (by rfl)) (yld_fieldAddr (by rfl) (by exact Try.runUnderlying101) (by rfl) (by exact Try.sizeOf32) (by rfl) (by rfl)) (by rfl) (by decide) ?_
        refine WL.yld (wanted_plain (by rfl)) (yld_load (by rfl) (by exact Try.isAgg32) (by repeat (first | exact .here | apply Sel.there)) (by rfl)) (by rfl) (by decide) ?_
        refine WL.yld (wanted_plain (by rfl)) (yld_neq (by rfl) (by rfl)) (by rfl) (by decide) ?_
        refine WL.done ?_
        refine WK.cond (by rfl) (fun hc41 => ?_) (fun hc41 => ?_)
        · skip
          have hc41 := of_decide_eq_true hc41
          exact (hc41 rfl).elim
        · skip
          have hc41 := of_decide_eq_false hc41
          refine WK.skip ?_
          refine WK.seq ?_
          refine WK.region ?_
          refine WL.yld (wanted_plain (by rfl)) (yld_move (by rfl)) (by rfl) (by decide) ?_
          refine WL.yld (wanted_plain (by rfl)) (yld_assign (by rfl)) (by rfl) (by decide) ?_
          refine WL.done ?_
          refine WK.ret ?_
          repeat (first | refine RQ.block ?_ | refine RQ.then_ ?_)
          refine RQ.body (results1 (by rfl) (by rfl)) (fun w s => ?_)
          obtain rfl : i = n := by omega
          refine ⟨((r.drop i, 0), (ad2, i, cap2)), ⟨rfl, by rw [List.length_take]; dsimp only; omega⟩, rfl, ?_⟩
          exact Sat.rdShut ⟨ad, len, cap⟩ (s.sel (As := rdL q (r.drop i) 0 ⟨ad, len, cap⟩) (by dsimp only [rdL]; exact (by repeat (first | exact SelL.nil | exact SelL.self | apply SelL.cons | exact Sel.here | apply Sel.there | apply SelL.skip)))) |>.toCs (by repeat (first | exact SelL.nil | exact SelL.self | apply SelL.cons | exact Sel.here | apply Sel.there | apply SelL.skip))
set_option maxRecDepth 20000 in
set_option maxHeartbeats 1000000 in
theorem rdRaw_spec (q : Nat) (bs : List UInt8) (e : Int) (hb : e = 0 → bs.length ≤ 1000000) :
    Triple Try.prog 36 #[.pointer (some ⟨q, 0, none⟩)] [rdR q bs e] ((List UInt8 × Int) × (Option Addr × Nat × Nat)) (fun x => match rawE bs e with | some r => x.1 = (r.2, 0) ∧ x.2.2.1 = r.1.length | none => x.1.2 ≠ 0 ∧ x.2 = (none, 0, 0)) (fun x => .slice x.2.1 x.2.2.1 x.2.2.2) (fun x => [rdR q x.1.1 x.1.2, sl true 5 1 x.2.1 x.2.2.1 x.2.2.2 ((rawV bs e).map bv)]) := by
  refine Triple.of_body (args := [.pointer (some ⟨q, 0, none⟩)]) Try.func36 rfl Try.ntmps36 (by simp) (fun g F => ?_)
  dsimp only [numb, List.cons_append, List.nil_append]
  refine WK.seq ?_
  refine WK.region ?_
  refine WL.yld (wanted_plain (by rfl)) (yld_assign (by rfl)) (by rfl) (by decide) ?_
  refine WL.done ?_
  refine WK.seq ?_
  refine WK.region ?_
  refine WL.yld (wanted_plain (by rfl)) (yld_move (by rfl)) (by rfl) (by decide) ?_
  refine WL.yld (wanted_plain (by rfl)) (yld_move (by rfl)) (by rfl) (by decide) ?_
  refine WL.yld (wanted_plain (by rfl)) (yld_mkFunc (by repeat (first | exact Evs.nil | apply Evs.cons | rfl)) (by repeat (first | exact Evs.nil | apply Evs.cons | rfl))) (by rfl) (by decide) ?_
  refine WL.eff (wanted_plain (by rfl)) (eff_call (by exact Try.call59) (by repeat (first | exact Evs.nil | apply Evs.cons | rfl)) (by repeat (first | exact SelL.nil | exact SelL.self | apply SelL.cons | exact Sel.here | apply Sel.there | apply SelL.skip)) (list_spec q bs e hb)) (by rfl) (by decide) ?_
  rintro x6 hx6
  try dsimp only
  refine WL.yld (wanted_plain (by rfl)) (yld_assign (by rfl)) (by rfl) (by decide) ?_
  refine WL.done ?_
  refine WK.ret ?_
  repeat (first | refine RQ.block ?_ | refine RQ.then_ ?_)
  refine RQ.body (results1 (by rfl) (by rfl)) (fun w s => ?_)
  exact ⟨x6, hx6, rfl, s⟩
end Go.Proofs.Ytnknclbiamhnaaa
