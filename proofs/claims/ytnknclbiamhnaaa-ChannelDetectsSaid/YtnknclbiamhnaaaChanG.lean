import Derived.Test.YtnknclbiamhnaaaRefA
import Derived.Test.YtnknclbiamhnaaaChanD
namespace Go.Proofs.Ytnknclbiamhnaaa
set_option linter.unusedVariables false
set_option linter.unusedSimpArgs false
set_option linter.unusedSectionVars false
open Go Go.Sep
attribute [local irreducible] row sl mapO held exL allR byt mapI slr
/-! ### Packets as bytes -/
theorem mixM_R (s w : Int) : 0 ≤ mixM s w ∧ mixM s w < 18446744073709551616 := by
  unfold mixM bXor
  exact wrapR _
def hashN (label b : List UInt8) : Nat := (hashB label b).toNat
theorem hashN_cast (label b : List UInt8) : hashB label b = (hashN label b : Int) := by
  have h := mixM_R
  unfold hashN
  have h2 : 0 ≤ hashB label b := by unfold hashB hashM; exact (h _ _).1
  omega
theorem hashN_lt (label b : List UInt8) : hashN label b < 18446744073709551616 := by
  have h := mixM_R
  have h2 : hashB label b < 18446744073709551616 := by unfold hashB hashM; exact (h _ _).2
  rw [hashN_cast] at h2
  omega
def parcel : List UInt8 := [112, 97, 114, 99, 101, 108]
def coreM (x y : Int) (b : List UInt8) : List UInt8 := uintB (zig x) ++ uintB (zig y) ++ uintB b.length ++ b
def wholeM (c : List UInt8) : List UInt8 := uintB c.length ++ c ++ uintB (hashN parcel c)
def encM (x y : Int) (b : List UInt8) : List UInt8 := if validB x y b.length then wholeM (coreM x y b) else []
def I64 (i : Int) : Prop := -9223372036854775808 ≤ i ∧ i ≤ 9223372036854775807
theorem coreM_len {x y : Int} {b : List UInt8} (hx : I64 x) (hy : I64 y) (hb : b.length ≤ 1000000) : (coreM x y b).length ≤ b.length + 30 := by
  have h1 := uintB_le (zig_lt x hx)
  have h2 := uintB_le (zig_lt y hy)
  have h3 := uintB_le (n := b.length) (by omega)
  simp only [coreM, List.length_append]
  omega
theorem wholeM_len {c : List UInt8} (hb : c.length ≤ 1000000) : (wholeM c).length ≤ c.length + 20 := by
  have h1 := uintB_le (hashN_lt parcel c)
  have h3 := uintB_le (n := c.length) (by omega)
  simp only [wholeM, List.length_append]
  omega
theorem unzig_I64 {z : Nat} (h : z < 18446744073709551616) : I64 (unzig z) := by
  unfold unzig I64
  split <;> omega
/-- The core and the hash. -/
def topM (bs : List UInt8) : Option (List UInt8 × Nat) := match rawE bs 0 with
  | some (c, r) => match uintE r 0 with
    | some (m, []) => some (c, m)
    | _ => none
  | none => none
def innerM (c : List UInt8) : Option (Int × Int × List UInt8) := match uintE c 0 with
  | some (z1, c1) => match uintE c1 0 with
    | some (z2, c2) => match rawE c2 0 with
      | some (b, []) => if validB (unzig z1) (unzig z2) b.length then some (unzig z1, unzig z2, b) else none
      | _ => none
    | none => none
  | none => none
def decM (bs : List UInt8) : (Int × Int × List UInt8) × Int := match topM bs with
  | some (c, m) => if (m : Int) = hashN parcel c then match innerM c with
      | some x => (x, 0)
      | none => ((0, 0, []), 2)
    else ((0, 0, []), 19)
  | none => ((0, 0, []), 2)
theorem decM_top {bs : List UInt8} (h : topM bs = none) : decM bs = ((0, 0, []), 2) := by unfold decM; rw [h]
theorem decM_sum {bs c : List UInt8} {m : Nat} (h : topM bs = some (c, m)) (h2 : (m : Int) ≠ hashN parcel c) : decM bs = ((0, 0, []), 19) := by unfold decM; rw [h]; exact if_neg h2
theorem decM_inner {bs c : List UInt8} {m : Nat} (h : topM bs = some (c, m)) (h2 : (m : Int) = hashN parcel c) (h3 : innerM c = none) : decM bs = ((0, 0, []), 2) := by unfold decM; rw [h]; dsimp only; rw [if_pos h2, h3]
theorem decM_good {bs c : List UInt8} {m : Nat} {x : Int × Int × List UInt8} (h : topM bs = some (c, m)) (h2 : (m : Int) = hashN parcel c) (h3 : innerM c = some x) : decM bs = (x, 0) := by unfold decM; rw [h]; dsimp only; rw [if_pos h2, h3]
theorem rawE_e {bs : List UInt8} {e : Int} {x : List UInt8 × List UInt8} (h : rawE bs e = some x) : e = 0 := by
  unfold rawE at h
  split at h
  · rename_i hu; exact uintE_e hu
  · cases h
theorem rawE_some {bs c r : List UInt8} {e : Int} (h : rawE bs e = some (c, r)) : c.length + r.length < bs.length := by
  unfold rawE at h
  split at h
  · rename_i n r' hu
    have := (uintE_some hu).2
    split at h
    · cases h; rw [List.length_take, List.length_drop]; omega
    · cases h
  · cases h
def endV (bs : List UInt8) (e : Int) : Int := if e = 0 ∧ bs ≠ [] then 2 else e
theorem endV_zero {bs : List UInt8} {e : Int} (h : endV bs e = 0) : e = 0 ∧ bs = [] := by
  unfold endV at h
  split at h
  · cases h
  · rename_i hn
    refine ⟨h, ?_⟩
    by_cases hb : bs = []
    · exact hb
    · exact absurd ⟨h, hb⟩ hn
/-- What is known behind a byte slice's and a number's reading. -/
def RawQ (bs : List UInt8) (e : Int) (x : (List UInt8 × Int) × (Option Addr × Nat × Nat)) : Prop := match rawE bs e with
  | some r => x.1 = (r.2, 0) ∧ x.2.2.1 = r.1.length
  | none => x.1.2 ≠ 0 ∧ x.2 = (none, 0, 0)
def UintQ (bs : List UInt8) (e : Int) (x : List UInt8 × Int) : Prop := match uintE bs e with
  | some r => x = (r.2, 0)
  | none => x.2 ≠ 0
theorem RawQ.ok {bs bs1 : List UInt8} {e e1 : Int} {y : Option Addr × Nat × Nat} (h : RawQ bs e ((bs1, e1), y)) (he : e1 = 0) : ∃ c, rawE bs e = some (c, bs1) ∧ y.2.1 = c.length := by
  unfold RawQ at h
  split at h
  · rename_i r hr
    simp only [Prod.mk.injEq] at h
    exact ⟨r.1, by rw [hr, h.1.1], h.2⟩
  · exact absurd he h.1
theorem RawQ.len {bs bs1 : List UInt8} {e e1 : Int} {y : Option Addr × Nat × Nat} (h : RawQ bs e ((bs1, e1), y)) (he : e1 ≠ 0) : rawE bs e = none ∧ y = (none, 0, 0) := by
  unfold RawQ at h
  split at h
  · simp only [Prod.mk.injEq] at h
    exact absurd h.1.2 he
  · rename_i hr; exact ⟨hr, h.2⟩
theorem RawQ.rest {bs bs1 : List UInt8} {e e1 : Int} {y : Option Addr × Nat × Nat} (h : RawQ bs e ((bs1, e1), y)) : e1 ≠ 0 ∨ bs1.length < bs.length := by
  by_cases he : e1 = 0
  · obtain ⟨c, hr, _⟩ := h.ok he
    have := rawE_some hr
    exact .inr (by omega)
  · exact .inl he
theorem UintQ.ok {bs bs1 : List UInt8} {e e1 : Int} (h : UintQ bs e (bs1, e1)) (he : e1 = 0) : ∃ m, uintE bs e = some (m, bs1) := by
  unfold UintQ at h
  split at h
  · rename_i r hr
    simp only [Prod.mk.injEq] at h
    exact ⟨r.1, by rw [hr, h.1]⟩
  · exact absurd he h
theorem UintQ.rest {bs bs1 : List UInt8} {e e1 : Int} (h : UintQ bs e (bs1, e1)) : e1 ≠ 0 ∨ bs1.length < bs.length := by
  by_cases he : e1 = 0
  · obtain ⟨m, hr⟩ := h.ok he
    exact .inr (uintE_some hr).2
  · exact .inl he
theorem UintQ.e0 {bs bs1 : List UInt8} {e e1 : Int} (h : UintQ bs e (bs1, e1)) (he : e1 = 0) : e = 0 := by
  obtain ⟨m, hm⟩ := h.ok he
  exact uintE_e hm
theorem top_ok {bs bs1 bs2 : List UInt8} {e1 e2 : Int} {y : Option Addr × Nat × Nat} (h1 : RawQ bs 0 ((bs1, e1), y)) (h2 : UintQ bs1 e1 (bs2, e2)) (h : endV bs2 e2 = 0) :
    ∃ c m, topM bs = some (c, m) ∧ y.2.1 = c.length ∧ rawV bs 0 = c ∧ (((uintE bs1 e1).map Prod.fst).getD 0) = m ∧ c.length < bs.length := by
  obtain ⟨he, hb⟩ := endV_zero h
  obtain ⟨m, hm⟩ := h2.ok he
  have he1 := uintE_e hm
  obtain ⟨c, hc, hl⟩ := h1.ok he1
  subst hb he1
  refine ⟨c, m, ?_, hl, by unfold rawV; rw [hc]; rfl, by rw [hm]; rfl, by have := rawE_some hc; omega⟩
  unfold topM
  rw [hc]
  dsimp only
  rw [hm]
theorem top_bad {bs bs1 bs2 : List UInt8} {e1 e2 : Int} {y : Option Addr × Nat × Nat} (h1 : RawQ bs 0 ((bs1, e1), y)) (h2 : UintQ bs1 e1 (bs2, e2)) (h : endV bs2 e2 ≠ 0) : topM bs = none := by
  rcases ht : topM bs with _ | ⟨c, m⟩
  · rfl
  · exfalso
    apply h
    unfold topM at ht
    rcases hr : rawE bs 0 with _ | ⟨c', r'⟩
    · rw [hr] at ht; cases ht
    · rw [hr] at ht
      dsimp only at ht
      unfold RawQ at h1
      rw [hr] at h1
      simp only [Prod.mk.injEq] at h1
      obtain ⟨⟨rfl, rfl⟩, _⟩ := h1
      unfold UintQ at h2
      rcases hu : uintE bs1 0 with _ | ⟨m', r2⟩
      · rw [hu] at ht; cases ht
      · rw [hu] at ht h2
        cases r2 with
        | nil =>
          simp only [Prod.mk.injEq] at h2
          obtain ⟨rfl, rfl⟩ := h2
          rfl
        | cons a b => cases ht
theorem inner_ok {c c1 c2 c3 : List UInt8} {e3 e4 e5 : Int} {y : Option Addr × Nat × Nat} (h1 : UintQ c 0 (c1, e3)) (h2 : UintQ c1 e3 (c2, e4)) (h3 : RawQ c2 e4 ((c3, e5), y)) (h : endV c3 e5 = 0) :
    ∃ z1 z2 b, z1 < 18446744073709551616 ∧ z2 < 18446744073709551616 ∧ (((uintE c 0).map Prod.fst).getD 0) = z1 ∧ (((uintE c1 e3).map Prod.fst).getD 0) = z2 ∧ rawV c2 e4 = b ∧ y.2.1 = b.length ∧
      innerM c = if validB (unzig z1) (unzig z2) b.length then some (unzig z1, unzig z2, b) else none := by
  obtain ⟨he, hb⟩ := endV_zero h
  obtain ⟨b, hc, hl⟩ := h3.ok he
  have he4 := rawE_e hc
  obtain ⟨z2, hz2⟩ := h2.ok he4
  have he3 := uintE_e hz2
  obtain ⟨z1, hz1⟩ := h1.ok he3
  subst hb he4 he3
  refine ⟨z1, z2, b, (uintE_some hz1).1, (uintE_some hz2).1, by rw [hz1]; rfl, by rw [hz2]; rfl, by unfold rawV; rw [hc]; rfl, hl, ?_⟩
  unfold innerM
  rw [hz1]
  dsimp only
  rw [hz2]
  dsimp only
  rw [hc]
theorem inner_bad {c c1 c2 c3 : List UInt8} {e3 e4 e5 : Int} {y : Option Addr × Nat × Nat} (h1 : UintQ c 0 (c1, e3)) (h2 : UintQ c1 e3 (c2, e4)) (h3 : RawQ c2 e4 ((c3, e5), y)) (h : endV c3 e5 ≠ 0) : innerM c = none := by
  rcases ht : innerM c with _ | x
  · rfl
  · exfalso
    apply h
    unfold innerM at ht
    unfold UintQ at h1 h2
    unfold RawQ at h3
    rcases hu : uintE c 0 with _ | ⟨z1, r1⟩
    · rw [hu] at ht; cases ht
    · rw [hu] at ht h1
      simp only [Prod.mk.injEq] at h1
      obtain ⟨rfl, rfl⟩ := h1
      dsimp only at ht
      rcases hu2 : uintE c1 0 with _ | ⟨z2, r2⟩
      · rw [hu2] at ht; cases ht
      · rw [hu2] at ht h2
        simp only [Prod.mk.injEq] at h2
        obtain ⟨rfl, rfl⟩ := h2
        dsimp only at ht
        rcases hu3 : rawE c2 0 with _ | ⟨b, r3⟩
        · rw [hu3] at ht; cases ht
        · rw [hu3] at ht h3
          simp only [Prod.mk.injEq] at h3
          obtain ⟨⟨rfl, rfl⟩, _⟩ := h3
          cases c3 with
          | nil => rfl
          | cons _ _ => cases ht
theorem Sat.wrNew {g w : World} {Ps : List HProp} {q : Nat} (s : Sat g w (row true q 78 [.slice none 0 0] :: Ps)) : Sat g w (wrR q [] :: Ps) :=
  Sat.wrShut ⟨none, 0, 0⟩ (Sat.perm (Sat.nilSl s true 5 1) (.swap _ _ _))
theorem Sat.rfNew {g w : World} {Ps : List HProp} {q : Nat} {ad : Option Addr} {len cap : Nat} {bs : List UInt8} (s : Sat g w (row true q 99 [.slice ad len cap, .int .i64 0] :: sl false 5 1 ad len cap (bs.map bv) :: Ps)) : Sat g w (rfR q bs 0 :: sl false 5 1 ad len cap (bs.map bv) :: Ps) :=
  Sat.rfShut ⟨ad, len, cap⟩ (Sat.perm (Sat.dup (Sat.perm s (.swap _ _ _)) (dup_sl _ _ _ _ _ _)) (.trans (.cons _ (.swap _ _ _)) (.swap _ _ _)))
theorem decM_len (bs : List UInt8) : (decM bs).1.2.2.length ≤ bs.length := by
  unfold decM
  split
  · rename_i c m ht
    split
    · split
      · rename_i x hi
        unfold topM at ht
        split at ht
        · rename_i c' r' hr
          split at ht
          · cases ht
            have h1 := rawE_some hr
            unfold innerM at hi
            split at hi
            · rename_i z1 c1 h2
              split at hi
              · rename_i z2 c2 h3
                split at hi
                · rename_i b h4
                  split at hi
                  · cases hi
                    have h5 := (uintE_some h2).2
                    have h6 := (uintE_some h3).2
                    have h7 := rawE_some h4
                    dsimp only
                    simp only [List.length_nil] at h7
                    omega
                  · cases hi
                · cases hi
              · cases hi
            · cases hi
          · cases ht
        · cases ht
      · simp
    · simp
  · simp
theorem encM_len {x y : Int} {b : List UInt8} (hx : I64 x) (hy : I64 y) (hb : b.length ≤ 100000) : (encM x y b).length ≤ b.length + 50 := by
  have h1 := coreM_len hx hy (b := b) (by omega)
  have h2 := wholeM_len (c := coreM x y b) (by omega)
  unfold encM
  split
  · omega
  · simp
theorem Sat.toAll1 {g w : World} {Ps : List HProp} {t : TypeId} {ad : Option Addr} {len cap : Nat} {x : List UInt8} {vs : List Value} {xs : List (List UInt8)} (s : Sat g w (sl true t 1 ad len cap (x.map bv) :: allR (byt t false) vs xs :: Ps)) : Sat g w (allR (byt t false) (.slice ad len cap :: vs) (x :: xs) :: Ps) :=
  Sat.allCons (Sat.bytShut (Sat.slFreeze s))
theorem places99 (w : World) : ∀ {fs : Array Field}, Try.prog.underlying 99 = some (.struct fs) → Sem.run Try.prog (fs.mapM fun f => Prod.mk f.offset <$> sizeOf f.type) w = .ok #[(0, 1), (1, 1)] w := by
  intro fs h
  rw [Try.underlying99] at h
  cases h
  simp
set_option maxRecDepth 20000 in
set_option maxHeartbeats 2000000 in
theorem encode_spec (x y : Int) (p : Bool) (ad : Option Addr) (len cap : Nat) (b : List UInt8) (hx : I64 x) (hy : I64 y) (hb : b.length ≤ 100000) :
    Triple Try.prog 28 #[.agg #[.int .i64 x, .int .i64 y, .slice ad len cap]] [sl p 5 1 ad len cap (b.map bv)] (Option Addr × Nat × Nat) (fun r => r.2.1 = (encM x y b).length) (fun r => .tuple #[.slice r.1 r.2.1 r.2.2, .int .i64 (if validB x y len then 0 else 1)]) (fun r => [sl true 5 1 r.1 r.2.1 r.2.2 ((encM x y b).map bv), sl p 5 1 ad len cap (b.map bv)]) := by
  refine Triple.of_body (args := [.agg #[.int .i64 x, .int .i64 y, .slice ad len cap]]) Try.func28 rfl Try.ntmps28 (by simp) (fun g F => ?_)
  dsimp only [numb, List.cons_append, List.nil_append]
  refine WK.know (fun w s => Sat.slLen (s.sel1 (A := sl p 5 1 ad len cap (b.map bv)) (by repeat (first | exact .here | apply Sel.there)))) (fun hkn => ?_)
  obtain ⟨n1, n1c, -⟩ := hkn
  simp only [Nat.mul_one, List.length_map] at n1
  subst n1
  have hcl := coreM_len hx hy (b := b) (by omega)
  have hwl := wholeM_len (c := coreM x y b) (by omega)
  have hcl2 := hcl
  simp only [coreM, List.length_append] at hcl2
  refine WK.seq ?_
  refine WK.region ?_
  refine WL.eff (wanted_plain (by rfl)) (eff_box (by rfl) (by rfl)) (by rfl) (by decide) ?_
  rintro b1 -
  try dsimp only
  refine WL.yld (wanted_plain (by rfl)) (yld_assign (by rfl)) (by rfl) (by decide) ?_
  refine WL.yld (wanted_plain (by rfl)) (yld_assign (by rfl)) (by rfl) (by decide) ?_
  refine WL.done ?_
  refine WK.seq ?_
  refine WK.seq ?_
  refine WK.region ?_
  refine WL.yld (wanted_plain (by rfl)) (yld_loadA (by rfl) (by exact Try.isAgg44) (by exact Try.sizeOf44) (by repeat (first | exact .here | apply Sel.there)) (by repeat (first | exact Cells.nil | apply Cells.cons | rfl))) (by rfl) (by decide) ?_
  refine WL.eff (wanted_plain (by rfl)) (eff_call (by exact Try.call43) (by repeat (first | exact Evs.nil | apply Evs.cons | rfl)) (by repeat (first | exact SelL.nil | exact SelL.self | apply SelL.cons | exact Sel.here | apply Sel.there | apply SelL.skip)) (valid_spec true x y ad b.length cap)) (by rfl) (by decide) ?_
  rintro _ -
  try dsimp only
  refine WL.yld (wanted_plain (by rfl)) (yld_not (by rfl)) (by rfl) (by decide) ?_
  refine WL.done ?_
  refine WK.cond (by rfl) (fun hc8 => ?_) (fun hc8 => ?_)
  · skip
    obtain hv : validB x y b.length = false := by simpa using hc8
    rw [show encM x y b = [] from by unfold encM; rw [hv]; rfl, hv]
    refine WK.seq ?_
    refine WK.region ?_
    refine WL.yld (wanted_plain (by rfl)) (yld_assign (by rfl)) (by rfl) (by decide) ?_
    refine WL.yld (wanted_plain (by rfl)) (yld_assign (by rfl)) (by rfl) (by decide) ?_
    refine WL.done ?_
    refine WK.ret ?_
    repeat (first | refine RQ.block ?_ | refine RQ.then_ ?_)
    refine RQ.body (results2 (by rfl) (by rfl) (by rfl)) (fun w s => ?_)
    exact ⟨(none, 0, 0), rfl, rfl, Sat.toCs (Sat.nilSl s true 5 1) (by repeat (first | exact SelL.nil | exact SelL.self | apply SelL.cons | exact Sel.here | apply Sel.there | apply SelL.skip))⟩
  · skip
    obtain hv : validB x y b.length = true := by simpa using hc8
    rw [show encM x y b = wholeM (coreM x y b) from by unfold encM; rw [hv]; rfl, hv]
    refine WK.skip ?_
    refine WK.seq ?_
    refine WK.region ?_
    refine WL.eff (wanted_plain (by rfl)) (eff_alloc (by exact Try.zeroValue78) (by rfl)) (by rfl) (by decide) ?_
    rintro b4 -
    try dsimp only
    refine WL.eff (wanted_plain (by rfl)) (eff_alloc (by exact Try.zeroValue78) (by rfl)) (by rfl) (by decide) ?_
    rintro b5 -
    try dsimp only
    refine WL.done ?_
    refine WK.sat (fun w s => Sat.wrNew (s.sel1 (A := row true b4 78 [.slice none 0 0]) (by repeat (first | exact .here | apply Sel.there)))) ?_
    refine WK.sat (fun w s => Sat.wrNew (s.sel1 (A := row true b5 78 [.slice none 0 0]) (by repeat (first | exact .here | apply Sel.there)))) ?_
    refine WK.seq ?_
    refine WK.region ?_
    refine WL.yld (wanted_plain (by rfl)) (yld_fieldAddr (by rfl) (by exact Try.runUnderlying44) (by rfl) (by exact Try.sizeOf3) (by rfl) (by rfl)) (by rfl) (by decide) ?_
    refine WL.yld (wanted_plain (by rfl)) (yld_load (by rfl) (by exact Try.isAgg3) (by repeat (first | exact .here | apply Sel.there)) (by rfl)) (by rfl) (by decide) ?_
    refine WL.eff (wanted_plain (by rfl)) (eff_call (by exact Try.call48) (by repeat (first | exact Evs.nil | apply Evs.cons | rfl)) (by repeat (first | exact SelL.nil | exact SelL.self | apply SelL.cons | exact Sel.here | apply Sel.there | apply SelL.skip)) (wrInt_spec b4 [] x hx (by simp))) (by rfl) (by decide) ?_
    rintro _ -
    dsimp only [List.nil_append]
    try dsimp only
    refine WL.done ?_
    refine WK.seq ?_
    refine WK.region ?_
    refine WL.yld (wanted_plain (by rfl)) (yld_fieldAddr (by rfl) (by exact Try.runUnderlying44) (by rfl) (by exact Try.sizeOf3) (by rfl) (by rfl)) (by rfl) (by decide) ?_
    refine WL.yld (wanted_plain (by rfl)) (yld_load (by rfl) (by exact Try.isAgg3) (by repeat (first | exact .here | apply Sel.there)) (by rfl)) (by rfl) (by decide) ?_
    refine WL.eff (wanted_plain (by rfl)) (eff_call (by exact Try.call48) (by repeat (first | exact Evs.nil | apply Evs.cons | rfl)) (by repeat (first | exact SelL.nil | exact SelL.self | apply SelL.cons | exact Sel.here | apply Sel.there | apply SelL.skip)) (wrInt_spec b4 (uintB (zig x)) y hy (by omega))) (by rfl) (by decide) ?_
    rintro _ -
    try dsimp only
    refine WL.done ?_
    refine WK.seq ?_
    refine WK.region ?_
    refine WL.yld (wanted_plain (by rfl)) (yld_fieldAddr (by rfl) (by exact Try.runUnderlying44) (by rfl) (by exact Try.sizeOf31) (by rfl) (by rfl)) (by rfl) (by decide) ?_
    refine WL.yld (wanted_plain (by rfl)) (yld_load (by rfl) (by exact Try.isAgg31) (by repeat (first | exact .here | apply Sel.there)) (by rfl)) (by rfl) (by decide) ?_
    refine WL.eff (wanted_plain (by rfl)) (eff_call (by exact Try.call49) (by repeat (first | exact Evs.nil | apply Evs.cons | rfl)) (by repeat (first | exact SelL.nil | exact SelL.self | apply SelL.cons | exact Sel.here | apply Sel.there | apply SelL.skip)) (wrRaw_spec b4 (uintB (zig x) ++ uintB (zig y)) b p ad b.length cap (by rw [List.length_append]; omega) (by omega))) (by rfl) (by decide) ?_
    rintro _ -
    rw [show uintB (zig x) ++ uintB (zig y) ++ uintB b.length ++ b = coreM x y b from rfl]
    try dsimp only
    refine WL.done ?_
    refine WK.seq ?_
    refine WK.region ?_
    refine WL.eff (wanted_plain (by rfl)) (eff_call (by exact Try.call39) (by repeat (first | exact Evs.nil | apply Evs.cons | rfl)) (by repeat (first | exact SelL.nil | exact SelL.self | apply SelL.cons | exact Sel.here | apply Sel.there | apply SelL.skip)) (wrDone_spec b4 (coreM x y b) (by omega))) (by rfl) (by decide) ?_
    rintro ⟨ad18, len18, cap18⟩ hl18
    dsimp only at hl18
    subst hl18
    try dsimp only
    refine WL.eff (wanted_plain (by rfl)) (eff_call (by exact Try.call49) (by repeat (first | exact Evs.nil | apply Evs.cons | rfl)) (by repeat (first | exact SelL.nil | exact SelL.self | apply SelL.cons | exact Sel.here | apply Sel.there | apply SelL.skip)) (wrRaw_spec b5 [] (coreM x y b) true ad18 (coreM x y b).length cap18 (by simp) (by omega))) (by rfl) (by decide) ?_
    rintro _ -
    dsimp only [List.nil_append]
    try dsimp only
    refine WL.done ?_
    refine WK.seq ?_
    refine WK.region ?_
    refine WL.eff (wanted_plain (by rfl)) (eff_call (by exact Try.call39) (by repeat (first | exact Evs.nil | apply Evs.cons | rfl)) (by repeat (first | exact SelL.nil | exact SelL.self | apply SelL.cons | exact Sel.here | apply Sel.there | apply SelL.skip)) (wrDone_spec b4 (coreM x y b) (by omega))) (by rfl) (by decide) ?_
    rintro ⟨ad20, len20, cap20⟩ hl20
    dsimp only at hl20
    subst hl20
    try dsimp only
    refine WL.eff (wanted_plain (by rfl)) (eff_call (by exact Try.call41) (by repeat (first | exact Evs.nil | apply Evs.cons | rfl)) (by repeat (first | exact SelL.nil | exact SelL.self | apply SelL.cons | exact Sel.here | apply Sel.there | apply SelL.skip)) (hbytes_spec parcel true ad20 (coreM x y b).length cap20 (coreM x y b) (by decide) (by omega))) (by rfl) (by decide) ?_
    rintro _ -
    rw [hashN_cast]
    try dsimp only
    refine WL.eff (wanted_plain (by rfl)) (eff_call (by exact Try.call38) (by repeat (first | exact Evs.nil | apply Evs.cons | rfl)) (by repeat (first | exact SelL.nil | exact SelL.self | apply SelL.cons | exact Sel.here | apply Sel.there | apply SelL.skip)) (wrUint_spec b5 (uintB (coreM x y b).length ++ coreM x y b) (hashN parcel (coreM x y b)) (hashN_lt _ _) (by have := uintB_le (n := (coreM x y b).length) (by omega); rw [List.length_append]; omega))) (by rfl) (by decide) ?_
    rintro _ -
    rw [show uintB (coreM x y b).length ++ coreM x y b ++ uintB (hashN parcel (coreM x y b)) = wholeM (coreM x y b) from rfl]
    try dsimp only
    refine WL.done ?_
    refine WK.seq ?_
    refine WK.region ?_
    refine WL.eff (wanted_plain (by rfl)) (eff_call (by exact Try.call39) (by repeat (first | exact Evs.nil | apply Evs.cons | rfl)) (by repeat (first | exact SelL.nil | exact SelL.self | apply SelL.cons | exact Sel.here | apply Sel.there | apply SelL.skip)) (wrDone_spec b5 (wholeM (coreM x y b)) (by omega))) (by rfl) (by decide) ?_
    rintro ⟨ad23, len23, cap23⟩ hl23
    dsimp only at hl23
    subst hl23
    try dsimp only
    refine WL.yld (wanted_plain (by rfl)) (yld_assign (by rfl)) (by rfl) (by decide) ?_
    refine WL.yld (wanted_plain (by rfl)) (yld_assign (by rfl)) (by rfl) (by decide) ?_
    refine WL.done ?_
    refine WK.ret ?_
    repeat (first | refine RQ.block ?_ | refine RQ.then_ ?_)
    refine RQ.body (results2 (by rfl) (by rfl) (by rfl)) (fun w s => ?_)
    exact ⟨(ad23, (wholeM (coreM x y b)).length, cap23), rfl, rfl, s.toCs (by repeat (first | exact SelL.nil | exact SelL.self | apply SelL.cons | exact Sel.here | apply Sel.there | apply SelL.skip))⟩
set_option maxRecDepth 20000 in
set_option maxHeartbeats 4000000 in
theorem decode_spec (p : Bool) (ad : Option Addr) (len cap : Nat) (bs : List UInt8) (hl : len ≤ 100000) :
    Triple Try.prog 32 #[.slice ad len cap] [sl p 5 1 ad len cap (bs.map bv)] (Option Addr × Nat × Nat) (fun r => r.2.1 = (decM bs).1.2.2.length) (fun r => .tuple #[.agg #[.int .i64 (decM bs).1.1, .int .i64 (decM bs).1.2.1, .slice r.1 r.2.1 r.2.2], .int .i64 (decM bs).2]) (fun r => [sl true 5 1 r.1 r.2.1 r.2.2 ((decM bs).1.2.2.map bv), sl p 5 1 ad len cap (bs.map bv)]) := by
  refine Triple.of_body (args := [.slice ad len cap]) Try.func32 rfl Try.ntmps32 (by simp) (fun g F => ?_)
  dsimp only [numb, List.cons_append, List.nil_append]
  refine WK.know (fun w s => Sat.slLen (s.sel1 (A := sl p 5 1 ad len cap (bs.map bv)) (by repeat (first | exact .here | apply Sel.there)))) (fun hkn => ?_)
  obtain ⟨n1, n1c, -⟩ := hkn
  simp only [Nat.mul_one, List.length_map] at n1
  refine WK.seq ?_
  refine WK.region ?_
  refine WL.eff (wanted_plain (by rfl)) (eff_alloc (by exact Try.zeroValue44) (by rfl)) (by rfl) (by decide) ?_
  rintro b2 -
  try dsimp only
  refine WL.yld (wanted_plain (by rfl)) (yld_assign (by rfl)) (by rfl) (by decide) ?_
  refine WL.done ?_
  refine WK.seq ?_
  refine WK.region ?_
  refine WL.yld (wanted_plain (by rfl)) (yld_move (by rfl)) (by rfl) (by decide) ?_
  refine WL.eff (wanted_plain (by rfl)) (eff_call (by exact Try.call35) (by repeat (first | exact Evs.nil | apply Evs.cons | rfl)) (by repeat (first | exact SelL.nil | exact SelL.self | apply SelL.cons | exact Sel.here | apply Sel.there | apply SelL.skip)) (read_spec p ad len cap bs (by omega))) (by rfl) (by decide) ?_
  rintro q9 -
  try dsimp only
  refine WL.yld (wanted_plain (by rfl)) (yld_assign (by rfl)) (by rfl) (by decide) ?_
  refine WL.done ?_
  refine WK.seq ?_
  refine WK.region ?_
  refine WL.yld (wanted_plain (by rfl)) (yld_move (by rfl)) (by rfl) (by decide) ?_
  refine WL.eff (wanted_plain (by rfl)) (eff_call (by exact Try.call36) (by repeat (first | exact Evs.nil | apply Evs.cons | rfl)) (by repeat (first | exact SelL.nil | exact SelL.self | apply SelL.cons | exact Sel.here | apply Sel.there | apply SelL.skip)) (rdRaw_spec q9 bs 0 (fun _ => by omega))) (by rfl) (by decide) ?_
  rintro ⟨⟨bs11, e11⟩, ad11, len11, cap11⟩ hx11
  have hx11 : RawQ bs 0 ((bs11, e11), (ad11, len11, cap11)) := hx11
  try dsimp only
  refine WL.yld (wanted_plain (by rfl)) (yld_assign (by rfl)) (by rfl) (by decide) ?_
  refine WL.done ?_
  refine WK.seq ?_
  refine WK.region ?_
  refine WL.yld (wanted_plain (by rfl)) (yld_move (by rfl)) (by rfl) (by decide) ?_
  refine WL.eff (wanted_plain (by rfl)) (eff_call (by exact Try.call37) (by repeat (first | exact Evs.nil | apply Evs.cons | rfl)) (by repeat (first | exact SelL.nil | exact SelL.self | apply SelL.cons | exact Sel.here | apply Sel.there | apply SelL.skip)) (rdUint_spec q9 bs11 e11)) (by rfl) (by decide) ?_
  rintro ⟨bs13, e13⟩ hx13
  have hx13 : UintQ bs11 e11 (bs13, e13) := hx13
  try dsimp only
  refine WL.yld (wanted_plain (by rfl)) (yld_assign (by rfl)) (by rfl) (by decide) ?_
  refine WL.done ?_
  refine WK.seq ?_
  refine WK.seq ?_
  refine WK.region ?_
  refine WL.yld (wanted_plain (by rfl)) (yld_move (by rfl)) (by rfl) (by decide) ?_
  refine WL.eff (wanted_plain (by rfl)) (eff_call (by exact Try.call40) (by repeat (first | exact Evs.nil | apply Evs.cons | rfl)) (by repeat (first | exact SelL.nil | exact SelL.self | apply SelL.cons | exact Sel.here | apply Sel.there | apply SelL.skip)) (rdEnd_spec q9 bs13 e13)) (by rfl) (by decide) ?_
  rintro _ -
  rw [show (if e13 = 0 ∧ bs13 ≠ [] then (2 : Int) else e13) = endV bs13 e13 from rfl]
  try dsimp only
  refine WL.yld (wanted_plain (by rfl)) (yld_neq (by rfl) (by rfl)) (by rfl) (by decide) ?_
  refine WL.done ?_
  refine WK.cond (by rfl) (fun hc16 => ?_) (fun hc16 => ?_)
  · skip
    have hc16 := of_decide_eq_true hc16
    rw [decM_top (top_bad hx11 hx13 (by omega))]
    refine WK.seq ?_
    refine WK.region ?_
    refine WL.yld (wanted_plain (by rfl)) (yld_build (by repeat (first | exact Prts.nil | apply Prts.cons | rfl)) (by exact Try.zeroValue44) (by exact Try.runUnderlying44) (by exact fun w => places44 w Try.underlying44) (by first | decide | simp) (by repeat (first | exact Fill.nil | apply Fill.cons | exact SetAts.nil | apply SetAts.cons | exact SetAt.here | apply SetAt.there | rfl))) (by rfl) (by decide) ?_
    refine WL.eff0 (wanted_plain (by rfl)) (eff_store (by rfl) (by rfl) (by exact Try.sizeOf44) (by rfl) (by rfl) (by rfl) (by repeat (first | exact .here | apply Sel.there)) (by repeat (first | exact SetAts.nil | apply SetAts.cons | exact SetAt.here | apply SetAt.there))) (by rfl) ?_
    rintro _ -
    try dsimp only
    refine WL.yld (wanted_plain (by rfl)) (yld_assign (by rfl)) (by rfl) (by decide) ?_
    refine WL.done ?_
    refine WK.ret ?_
    repeat (first | refine RQ.block ?_ | refine RQ.then_ ?_)
    refine RQ.body (resultsCT (by rfl) (by rfl) (by exact Try.isAgg44) (by exact Try.sizeOf44) (by repeat (first | exact .here | apply Sel.there)) (by repeat (first | exact Cells.nil | apply Cells.cons | rfl)) (by rfl)) (fun w s => ?_)
    exact ⟨(none, 0, 0), rfl, rfl, Sat.toCs (Sat.nilSl s true 5 1) (by repeat (first | exact SelL.nil | exact SelL.self | apply SelL.cons | exact Sel.here | apply Sel.there | apply SelL.skip))⟩
  · skip
    have hc16 := of_decide_eq_false hc16
    obtain ⟨c, m, htop, hlc, hrv, hum, hcl⟩ := top_ok hx11 hx13 (by omega)
    dsimp only at hlc
    subst hlc
    rw [hrv, hum]
    refine WK.skip ?_
    refine WK.seq ?_
    refine WK.seq ?_
    refine WK.region ?_
    refine WL.yld (wanted_plain (by rfl)) (yld_move (by rfl)) (by rfl) (by decide) ?_
    refine WL.yld (wanted_plain (by rfl)) (yld_move (by rfl)) (by rfl) (by decide) ?_
    refine WL.eff (wanted_plain (by rfl)) (eff_call (by exact Try.call41) (by repeat (first | exact Evs.nil | apply Evs.cons | rfl)) (by repeat (first | exact SelL.nil | exact SelL.self | apply SelL.cons | exact Sel.here | apply Sel.there | apply SelL.skip)) (hbytes_spec parcel true ad11 c.length cap11 c (by decide) (by omega))) (by rfl) (by decide) ?_
    rintro _ -
    rw [hashN_cast]
    try dsimp only
    refine WL.yld (wanted_plain (by rfl)) (yld_neq (by rfl) (by rfl)) (by rfl) (by decide) ?_
    refine WL.done ?_
    refine WK.cond (by rfl) (fun hc21 => ?_) (fun hc21 => ?_)
    · skip
      have hc21 := of_decide_eq_true hc21
      rw [decM_sum htop hc21]
      refine WK.seq ?_
      refine WK.region ?_
      refine WL.yld (wanted_plain (by rfl)) (yld_build (by repeat (first | exact Prts.nil | apply Prts.cons | rfl)) (by exact Try.zeroValue44) (by exact Try.runUnderlying44) (by exact fun w => places44 w Try.underlying44) (by first | decide | simp) (by repeat (first | exact Fill.nil | apply Fill.cons | exact SetAts.nil | apply SetAts.cons | exact SetAt.here | apply SetAt.there | rfl))) (by rfl) (by decide) ?_
      refine WL.eff0 (wanted_plain (by rfl)) (eff_store (by rfl) (by rfl) (by exact Try.sizeOf44) (by rfl) (by rfl) (by rfl) (by repeat (first | exact .here | apply Sel.there)) (by repeat (first | exact SetAts.nil | apply SetAts.cons | exact SetAt.here | apply SetAt.there))) (by rfl) ?_
      rintro _ -
      try dsimp only
      refine WL.yld (wanted_plain (by rfl)) (yld_assign (by rfl)) (by rfl) (by decide) ?_
      refine WL.done ?_
      refine WK.ret ?_
      repeat (first | refine RQ.block ?_ | refine RQ.then_ ?_)
      refine RQ.body (resultsCT (by rfl) (by rfl) (by exact Try.isAgg44) (by exact Try.sizeOf44) (by repeat (first | exact .here | apply Sel.there)) (by repeat (first | exact Cells.nil | apply Cells.cons | rfl)) (by rfl)) (fun w s => ?_)
      exact ⟨(none, 0, 0), rfl, rfl, Sat.toCs (Sat.nilSl s true 5 1) (by repeat (first | exact SelL.nil | exact SelL.self | apply SelL.cons | exact Sel.here | apply Sel.there | apply SelL.skip))⟩
    · skip
      have hc21 := of_decide_eq_false hc21
      have hc21 : (m : Int) = hashN parcel c := by omega
      refine WK.skip ?_
      refine WK.seq ?_
      refine WK.region ?_
      refine WL.yld (wanted_plain (by rfl)) (yld_move (by rfl)) (by rfl) (by decide) ?_
      refine WL.eff (wanted_plain (by rfl)) (eff_call (by exact Try.call35) (by repeat (first | exact Evs.nil | apply Evs.cons | rfl)) (by repeat (first | exact SelL.nil | exact SelL.self | apply SelL.cons | exact Sel.here | apply Sel.there | apply SelL.skip)) (read_spec true ad11 c.length cap11 c (by omega))) (by rfl) (by decide) ?_
      rintro q24 -
      try dsimp only
      refine WL.yld (wanted_plain (by rfl)) (yld_assign (by rfl)) (by rfl) (by decide) ?_
      refine WL.done ?_
      refine WK.seq ?_
      refine WK.region ?_
      refine WL.yld (wanted_plain (by rfl)) (yld_move (by rfl)) (by rfl) (by decide) ?_
      refine WL.eff (wanted_plain (by rfl)) (eff_call (by exact Try.call54) (by repeat (first | exact Evs.nil | apply Evs.cons | rfl)) (by repeat (first | exact SelL.nil | exact SelL.self | apply SelL.cons | exact Sel.here | apply Sel.there | apply SelL.skip)) (rdInt_spec q24 c 0)) (by rfl) (by decide) ?_
      rintro ⟨bs26, e26⟩ hx26
      have hx26 : UintQ c 0 (bs26, e26) := hx26
      try dsimp only
      refine WL.yld (wanted_plain (by rfl)) (yld_build (by repeat (first | exact Prts.nil | apply Prts.cons | rfl)) (by exact Try.zeroValue44) (by exact Try.runUnderlying44) (by exact fun w => places44 w Try.underlying44) (by first | decide | simp) (by repeat (first | exact Fill.nil | apply Fill.cons | exact SetAts.nil | apply SetAts.cons | exact SetAt.here | apply SetAt.there | rfl))) (by rfl) (by decide) ?_
      refine WL.eff (wanted_plain (by rfl)) (eff_alloc (by exact Try.zeroValue44) (by rfl)) (by rfl) (by decide) ?_
      rintro b7 -
      try dsimp only
      refine WL.eff0 (wanted_plain (by rfl)) (eff_store (by rfl) (by rfl) (by exact Try.sizeOf44) (by rfl) (by rfl) (by rfl) (by repeat (first | exact .here | apply Sel.there)) (by repeat (first | exact SetAts.nil | apply SetAts.cons | exact SetAt.here | apply SetAt.there))) (by rfl) ?_
      rintro _ -
      try dsimp only
      refine WL.done ?_
      refine WK.seq ?_
      refine WK.region ?_
      refine WL.yld (wanted_plain (by rfl)) (yld_move (by rfl)) (by rfl) (by decide) ?_
      refine WL.eff (wanted_plain (by rfl)) (eff_call (by exact Try.call54) (by repeat (first | exact Evs.nil | apply Evs.cons | rfl)) (by repeat (first | exact SelL.nil | exact SelL.self | apply SelL.cons | exact Sel.here | apply Sel.there | apply SelL.skip)) (rdInt_spec q24 bs26 e26)) (by rfl) (by decide) ?_
      rintro ⟨bs29, e29⟩ hx29
      have hx29 : UintQ bs26 e26 (bs29, e29) := hx29
      try dsimp only
      refine WL.yld (wanted_plain (by rfl)) (yld_fieldAddr (by rfl) (by exact Try.runUnderlying44) (by rfl) (by exact Try.sizeOf3) (by rfl) (by rfl)) (by rfl) (by decide) ?_
      refine WL.eff0 (wanted_plain (by rfl)) (eff_store (by rfl) (by rfl) (by exact Try.sizeOf3) (by rfl) (by rfl) (by rfl) (by repeat (first | exact .here | apply Sel.there)) (by repeat (first | exact SetAts.nil | apply SetAts.cons | exact SetAt.here | apply SetAt.there))) (by rfl) ?_
      rintro _ -
      try dsimp only
      refine WL.done ?_
      refine WK.seq ?_
      refine WK.region ?_
      refine WL.yld (wanted_plain (by rfl)) (yld_move (by rfl)) (by rfl) (by decide) ?_
      refine WL.eff (wanted_plain (by rfl)) (eff_call (by exact Try.call36) (by repeat (first | exact Evs.nil | apply Evs.cons | rfl)) (by repeat (first | exact SelL.nil | exact SelL.self | apply SelL.cons | exact Sel.here | apply Sel.there | apply SelL.skip)) (rdRaw_spec q24 bs29 e29 (fun h => by have h1 := hx26.rest; have h2 := hx29.rest; have h3 := hx29.e0 h; omega))) (by rfl) (by decide) ?_
      rintro ⟨⟨bs32, e32⟩, ad32, len32, cap32⟩ hx32
      have hx32 : RawQ bs29 e29 ((bs32, e32), (ad32, len32, cap32)) := hx32
      try dsimp only
      refine WL.yld (wanted_plain (by rfl)) (yld_fieldAddr (by rfl) (by exact Try.runUnderlying44) (by rfl) (by exact Try.sizeOf31) (by rfl) (by rfl)) (by rfl) (by decide) ?_
      refine WL.eff0 (wanted_plain (by rfl)) (eff_store (by rfl) (by rfl) (by exact Try.sizeOf31) (by rfl) (by rfl) (by rfl) (by repeat (first | exact .here | apply Sel.there)) (by repeat (first | exact SetAts.nil | apply SetAts.cons | exact SetAt.here | apply SetAt.there))) (by rfl) ?_
      rintro _ -
      try dsimp only
      refine WL.done ?_
      refine WK.seq ?_
      refine WK.seq ?_
      refine WK.region ?_
      refine WL.yld (wanted_plain (by rfl)) (yld_move (by rfl)) (by rfl) (by decide) ?_
      refine WL.eff (wanted_plain (by rfl)) (eff_call (by exact Try.call40) (by repeat (first | exact Evs.nil | apply Evs.cons | rfl)) (by repeat (first | exact SelL.nil | exact SelL.self | apply SelL.cons | exact Sel.here | apply Sel.there | apply SelL.skip)) (rdEnd_spec q24 bs32 e32)) (by rfl) (by decide) ?_
      rintro _ -
      rw [show (if e32 = 0 ∧ bs32 ≠ [] then (2 : Int) else e32) = endV bs32 e32 from rfl]
      try dsimp only
      refine WL.yld (wanted_plain (by rfl)) (yld_neq (by rfl) (by rfl)) (by rfl) (by decide) ?_
      refine WL.yld (wanted_plain (by rfl)) (yld_move (by rfl)) (by rfl) (by decide) ?_
      refine WL.split (d := 37) (by rfl) (fun hc37 => ?_) (fun hc37 => ?_)
      · skip
        have hc37 := of_decide_eq_true hc37
        rw [decM_inner htop hc21 (inner_bad hx26 hx29 hx32 (by omega))]
        refine WL.skip (unwanted_some (by rfl) (by rfl) (by rfl) (by rfl)) (by rfl) (by decide) ?_
        refine WL.skip (unwanted_some (by rfl) (by rfl) (by rfl) (by rfl)) (by rfl) (by decide) ?_
        refine WL.skip (unwanted_some (by rfl) (by rfl) (by rfl) (by rfl)) (by rfl) (by decide) ?_
        refine WL.yld (wanted_plain (by rfl)) (yld_pick_true (by rfl) (by rfl)) (by rfl) (by decide) ?_
        refine WL.done ?_
        refine WK.cond (by rfl) (fun _ => ?_) (fun h => by cases h)
        refine WK.seq ?_
        refine WK.region ?_
        refine WL.yld (wanted_plain (by rfl)) (yld_build (by repeat (first | exact Prts.nil | apply Prts.cons | rfl)) (by exact Try.zeroValue44) (by exact Try.runUnderlying44) (by exact fun w => places44 w Try.underlying44) (by first | decide | simp) (by repeat (first | exact Fill.nil | apply Fill.cons | exact SetAts.nil | apply SetAts.cons | exact SetAt.here | apply SetAt.there | rfl))) (by rfl) (by decide) ?_
        refine WL.eff0 (wanted_plain (by rfl)) (eff_store (by rfl) (by rfl) (by exact Try.sizeOf44) (by rfl) (by rfl) (by rfl) (by repeat (first | exact .here | apply Sel.there)) (by repeat (first | exact SetAts.nil | apply SetAts.cons | exact SetAt.here | apply SetAt.there))) (by rfl) ?_
        rintro _ -
        try dsimp only
        refine WL.yld (wanted_plain (by rfl)) (yld_assign (by rfl)) (by rfl) (by decide) ?_
        refine WL.done ?_
        refine WK.ret ?_
        repeat (first | refine RQ.block ?_ | refine RQ.then_ ?_)
        refine RQ.body (resultsCT (by rfl) (by rfl) (by exact Try.isAgg44) (by exact Try.sizeOf44) (by repeat (first | exact .here | apply Sel.there)) (by repeat (first | exact Cells.nil | apply Cells.cons | rfl)) (by rfl)) (fun w s => ?_)
        exact ⟨(none, 0, 0), rfl, rfl, Sat.toCs (Sat.nilSl s true 5 1) (by repeat (first | exact SelL.nil | exact SelL.self | apply SelL.cons | exact Sel.here | apply Sel.there | apply SelL.skip))⟩
      · skip
        have hc37 := of_decide_eq_false hc37
        obtain ⟨z1, z2, b, hz1, hz2, hv1, hv2, hrv2, hlb, hin⟩ := inner_ok hx26 hx29 hx32 (by omega)
        dsimp only at hlb
        subst hlb
        rw [hv1, hv2, hrv2]
        refine WL.yld (wanted_some (by rfl) (by rfl) (by rfl)) (yld_loadA (by rfl) (by exact Try.isAgg44) (by exact Try.sizeOf44) (by repeat (first | exact .here | apply Sel.there)) (by repeat (first | exact Cells.nil | apply Cells.cons | rfl))) (by rfl) (by decide) ?_
        refine WL.eff (wanted_some (by rfl) (by rfl) (by rfl)) (eff_call (by exact Try.call43) (by repeat (first | exact Evs.nil | apply Evs.cons | rfl)) (by repeat (first | exact SelL.nil | exact SelL.self | apply SelL.cons | exact Sel.here | apply Sel.there | apply SelL.skip)) (valid_spec true _ _ ad32 b.length cap32)) (by rfl) (by decide) ?_
        rintro _ -
        try dsimp only
        refine WL.yld (wanted_some (by rfl) (by rfl) (by rfl)) (yld_not (by rfl)) (by rfl) (by decide) ?_
        refine WL.yld (wanted_plain (by rfl)) (yld_pick_false (by rfl) (by rfl)) (by rfl) (by decide) ?_
        refine WL.done ?_
        refine WK.cond (by rfl) (fun hc41 => ?_) (fun hc41 => ?_)
        · skip
          have hvv : validB (unzig z1) (unzig z2) b.length = false := by simpa using hc41
          rw [hvv, if_neg (by simp)] at hin
          rw [decM_inner htop hc21 hin]
          refine WK.seq ?_
          refine WK.region ?_
          refine WL.yld (wanted_plain (by rfl)) (yld_build (by repeat (first | exact Prts.nil | apply Prts.cons | rfl)) (by exact Try.zeroValue44) (by exact Try.runUnderlying44) (by exact fun w => places44 w Try.underlying44) (by first | decide | simp) (by repeat (first | exact Fill.nil | apply Fill.cons | exact SetAts.nil | apply SetAts.cons | exact SetAt.here | apply SetAt.there | rfl))) (by rfl) (by decide) ?_
          refine WL.eff0 (wanted_plain (by rfl)) (eff_store (by rfl) (by rfl) (by exact Try.sizeOf44) (by rfl) (by rfl) (by rfl) (by repeat (first | exact .here | apply Sel.there)) (by repeat (first | exact SetAts.nil | apply SetAts.cons | exact SetAt.here | apply SetAt.there))) (by rfl) ?_
          rintro _ -
          try dsimp only
          refine WL.yld (wanted_plain (by rfl)) (yld_assign (by rfl)) (by rfl) (by decide) ?_
          refine WL.done ?_
          refine WK.ret ?_
          repeat (first | refine RQ.block ?_ | refine RQ.then_ ?_)
          refine RQ.body (resultsCT (by rfl) (by rfl) (by exact Try.isAgg44) (by exact Try.sizeOf44) (by repeat (first | exact .here | apply Sel.there)) (by repeat (first | exact Cells.nil | apply Cells.cons | rfl)) (by rfl)) (fun w s => ?_)
          exact ⟨(none, 0, 0), rfl, rfl, Sat.toCs (Sat.nilSl s true 5 1) (by repeat (first | exact SelL.nil | exact SelL.self | apply SelL.cons | exact Sel.here | apply Sel.there | apply SelL.skip))⟩
        · skip
          have hvv : validB (unzig z1) (unzig z2) b.length = true := by simpa using hc41
          rw [hvv, if_pos rfl] at hin
          rw [decM_good htop hc21 hin]
          refine WK.skip ?_
          refine WK.seq ?_
          refine WK.region ?_
          refine WL.yld (wanted_plain (by rfl)) (yld_loadA (by rfl) (by exact Try.isAgg44) (by exact Try.sizeOf44) (by repeat (first | exact .here | apply Sel.there)) (by repeat (first | exact Cells.nil | apply Cells.cons | rfl))) (by rfl) (by decide) ?_
          refine WL.eff0 (wanted_plain (by rfl)) (eff_store (by rfl) (by rfl) (by exact Try.sizeOf44) (by rfl) (by rfl) (by rfl) (by repeat (first | exact .here | apply Sel.there)) (by repeat (first | exact SetAts.nil | apply SetAts.cons | exact SetAt.here | apply SetAt.there))) (by rfl) ?_
          rintro _ -
          try dsimp only
          refine WL.yld (wanted_plain (by rfl)) (yld_assign (by rfl)) (by rfl) (by decide) ?_
          refine WL.done ?_
          refine WK.ret ?_
          repeat (first | refine RQ.block ?_ | refine RQ.then_ ?_)
          refine RQ.body (resultsCT (by rfl) (by rfl) (by exact Try.isAgg44) (by exact Try.sizeOf44) (by repeat (first | exact .here | apply Sel.there)) (by repeat (first | exact Cells.nil | apply Cells.cons | rfl)) (by rfl)) (fun w s => ?_)
          exact ⟨(ad32, b.length, cap32), rfl, rfl, s.toCs (by repeat (first | exact SelL.nil | exact SelL.self | apply SelL.cons | exact Sel.here | apply Sel.there | apply SelL.skip))⟩
set_option maxRecDepth 20000 in
set_option maxHeartbeats 1000000 in
theorem refCore_spec (x y : Int) (p : Bool) (ad : Option Addr) (len cap : Nat) (b : List UInt8) (hx : I64 x) (hy : I64 y) (hb : b.length ≤ 100000) :
    Triple Try.prog 50 #[.agg #[.int .i64 x, .int .i64 y, .slice ad len cap]] [sl p 5 1 ad len cap (b.map bv)] (Option Addr × Nat) (fun _ => True) (fun r => .slice r.1 (coreM x y b).length r.2) (fun r => [sl true 5 1 r.1 (coreM x y b).length r.2 ((coreM x y b).map bv), sl p 5 1 ad len cap (b.map bv)]) := by
  refine Triple.of_body (args := [.agg #[.int .i64 x, .int .i64 y, .slice ad len cap]]) Try.func50 rfl Try.ntmps50 (by simp) (fun g F => ?_)
  dsimp only [numb, List.cons_append, List.nil_append]
  refine WK.know (fun w s => Sat.slLen (s.sel1 (A := sl p 5 1 ad len cap (b.map bv)) (by repeat (first | exact .here | apply Sel.there)))) (fun hkn => ?_)
  obtain ⟨n1, n1c, -⟩ := hkn
  simp only [Nat.mul_one, List.length_map] at n1
  subst n1
  have h1 := uintB_le (zig_lt x hx)
  have h2 := uintB_le (zig_lt y hy)
  have h3 := uintB_le (n := b.length) (by omega)
  have hcl : (coreM x y b).length = (uintB (zig x)).length + (uintB (zig y)).length + ((uintB b.length).length + b.length) := by simp only [coreM, List.length_append]; omega
  refine WK.seq ?_
  refine WK.region ?_
  refine WL.eff (wanted_plain (by rfl)) (eff_box (by rfl) (by rfl)) (by rfl) (by decide) ?_
  rintro b1 -
  try dsimp only
  refine WL.yld (wanted_plain (by rfl)) (yld_assign (by rfl)) (by rfl) (by decide) ?_
  refine WL.done ?_
  refine WK.seq ?_
  refine WK.region ?_
  refine WL.yld (wanted_plain (by rfl)) (yld_fieldAddr (by rfl) (by exact Try.runUnderlying40) (by rfl) (by exact Try.sizeOf3) (by rfl) (by rfl)) (by rfl) (by decide) ?_
  refine WL.yld (wanted_plain (by rfl)) (yld_load (by rfl) (by exact Try.isAgg3) (by repeat (first | exact .here | apply Sel.there)) (by rfl)) (by rfl) (by decide) ?_
  refine WL.eff (wanted_plain (by rfl)) (eff_call (by exact Try.call66) (by repeat (first | exact Evs.nil | apply Evs.cons | rfl)) (by repeat (first | exact SelL.nil | exact SelL.self | apply SelL.cons | exact Sel.here | apply Sel.there | apply SelL.skip)) (refInt_spec x hx)) (by rfl) (by decide) ?_
  rintro ⟨ad6, cap6⟩ -
  try dsimp only
  refine WL.yld (wanted_plain (by rfl)) (yld_assign (by rfl)) (by rfl) (by decide) ?_
  refine WL.done ?_
  refine WK.seq ?_
  refine WK.region ?_
  refine WL.yld (wanted_plain (by rfl)) (yld_move (by rfl)) (by rfl) (by decide) ?_
  refine WL.yld (wanted_plain (by rfl)) (yld_fieldAddr (by rfl) (by exact Try.runUnderlying40) (by rfl) (by exact Try.sizeOf3) (by rfl) (by rfl)) (by rfl) (by decide) ?_
  refine WL.yld (wanted_plain (by rfl)) (yld_load (by rfl) (by exact Try.isAgg3) (by repeat (first | exact .here | apply Sel.there)) (by rfl)) (by rfl) (by decide) ?_
  refine WL.eff (wanted_plain (by rfl)) (eff_call (by exact Try.call66) (by repeat (first | exact Evs.nil | apply Evs.cons | rfl)) (by repeat (first | exact SelL.nil | exact SelL.self | apply SelL.cons | exact Sel.here | apply Sel.there | apply SelL.skip)) (refInt_spec y hy)) (by rfl) (by decide) ?_
  rintro ⟨ad10, cap10⟩ -
  try dsimp only
  refine WL.eff (wanted_plain (by rfl)) (eff_append (by rfl) (by rfl) (by exact elem31) (by exact Try.underlying31) (by repeat (first | exact SelL.nil | exact SelL.self | apply SelL.cons | exact Sel.here | apply Sel.there | apply SelL.skip)) (by omega) (by omega)) (by rfl) (by decide) ?_
  rintro ⟨ad11, cap11⟩ -
  try dsimp only
  refine WL.yld (wanted_plain (by rfl)) (yld_assign (by rfl)) (by rfl) (by decide) ?_
  refine WL.done ?_
  refine WK.seq ?_
  refine WK.region ?_
  refine WL.yld (wanted_plain (by rfl)) (yld_move (by rfl)) (by rfl) (by decide) ?_
  refine WL.yld (wanted_plain (by rfl)) (yld_fieldAddr (by rfl) (by exact Try.runUnderlying40) (by rfl) (by exact Try.sizeOf31) (by rfl) (by rfl)) (by rfl) (by decide) ?_
  refine WL.yld (wanted_plain (by rfl)) (yld_load (by rfl) (by exact Try.isAgg31) (by repeat (first | exact .here | apply Sel.there)) (by rfl)) (by rfl) (by decide) ?_
  refine WL.eff (wanted_plain (by rfl)) (eff_call (by exact Try.call51) (by repeat (first | exact Evs.nil | apply Evs.cons | rfl)) (by repeat (first | exact SelL.nil | exact SelL.self | apply SelL.cons | exact Sel.here | apply Sel.there | apply SelL.skip)) (refRaw_spec p ad b.length cap b (by omega))) (by rfl) (by decide) ?_
  rintro ⟨ad15, cap15⟩ -
  try dsimp only
  refine WL.eff (wanted_plain (by rfl)) (eff_append (by rfl) (by rfl) (by exact elem31) (by exact Try.underlying31) (by repeat (first | exact SelL.nil | exact SelL.self | apply SelL.cons | exact Sel.here | apply Sel.there | apply SelL.skip)) (by omega) (by omega)) (by rfl) (by decide) ?_
  rintro ⟨ad16, cap16⟩ -
  try dsimp only
  refine WL.yld (wanted_plain (by rfl)) (yld_assign (by rfl)) (by rfl) (by decide) ?_
  refine WL.done ?_
  refine WK.ret ?_
  repeat (first | refine RQ.block ?_ | refine RQ.then_ ?_)
  refine RQ.body (results1 (by rfl) (by rfl)) (fun w s => ?_)
  refine ⟨(ad16, cap16), trivial, by rw [hcl], ?_⟩
  rw [hcl, show (coreM x y b).map bv = (uintB (zig x)).map bv ++ (uintB (zig y)).map bv ++ (uintB b.length ++ b).map bv from by unfold coreM; simp only [List.map_append, List.append_assoc]]
  exact s.toCs (by repeat (first | exact SelL.nil | exact SelL.self | apply SelL.cons | exact Sel.here | apply Sel.there | apply SelL.skip))
set_option maxRecDepth 20000 in
set_option maxHeartbeats 1000000 in
theorem refWhole_spec (p : Bool) (ad : Option Addr) (len cap : Nat) (b : List UInt8) (hb : len ≤ 500000) :
    Triple Try.prog 31 #[.slice ad len cap] [sl p 5 1 ad len cap (b.map bv)] (Option Addr × Nat) (fun _ => True) (fun r => .slice r.1 (wholeM b).length r.2) (fun r => [sl true 5 1 r.1 (wholeM b).length r.2 ((wholeM b).map bv), sl p 5 1 ad len cap (b.map bv)]) := by
  refine Triple.of_body (args := [.slice ad len cap]) Try.func31 rfl Try.ntmps31 (by simp) (fun g F => ?_)
  dsimp only [numb, List.cons_append, List.nil_append]
  refine WK.know (fun w s => Sat.slLen (s.sel1 (A := sl p 5 1 ad len cap (b.map bv)) (by repeat (first | exact .here | apply Sel.there)))) (fun hkn => ?_)
  obtain ⟨n1, n1c, -⟩ := hkn
  simp only [Nat.mul_one, List.length_map] at n1
  subst n1
  have h1 := uintB_le (hashN_lt parcel b)
  have h3 := uintB_le (n := b.length) (by omega)
  have hcl : (wholeM b).length = (uintB b.length).length + b.length + (uintB (hashN parcel b)).length := by simp only [wholeM, List.length_append]
  refine WK.seq ?_
  refine WK.region ?_
  refine WL.yld (wanted_plain (by rfl)) (yld_assign (by rfl)) (by rfl) (by decide) ?_
  refine WL.done ?_
  refine WK.seq ?_
  refine WK.region ?_
  refine WL.yld (wanted_plain (by rfl)) (yld_move (by rfl)) (by rfl) (by decide) ?_
  refine WL.eff (wanted_plain (by rfl)) (eff_call (by exact Try.call51) (by repeat (first | exact Evs.nil | apply Evs.cons | rfl)) (by repeat (first | exact SelL.nil | exact SelL.self | apply SelL.cons | exact Sel.here | apply Sel.there | apply SelL.skip)) (refRaw_spec p ad b.length cap b (by omega))) (by rfl) (by decide) ?_
  rintro ⟨ad5, cap5⟩ -
  try dsimp only
  refine WL.yld (wanted_plain (by rfl)) (yld_assign (by rfl)) (by rfl) (by decide) ?_
  refine WL.done ?_
  refine WK.seq ?_
  refine WK.region ?_
  refine WL.yld (wanted_plain (by rfl)) (yld_move (by rfl)) (by rfl) (by decide) ?_
  refine WL.yld (wanted_plain (by rfl)) (yld_move (by rfl)) (by rfl) (by decide) ?_
  refine WL.eff (wanted_plain (by rfl)) (eff_call (by exact Try.call53) (by repeat (first | exact Evs.nil | apply Evs.cons | rfl)) (by repeat (first | exact SelL.nil | exact SelL.self | apply SelL.cons | exact Sel.here | apply Sel.there | apply SelL.skip)) (refBytes_spec parcel p ad b.length cap b (by decide) (by omega))) (by rfl) (by decide) ?_
  rintro _ -
  rw [hashN_cast]
  try dsimp only
  refine WL.eff (wanted_plain (by rfl)) (eff_call (by exact Try.call52) (by repeat (first | exact Evs.nil | apply Evs.cons | rfl)) (by repeat (first | exact SelL.nil | exact SelL.self | apply SelL.cons | exact Sel.here | apply Sel.there | apply SelL.skip)) (refUint_spec (hashN parcel b) (hashN_lt _ _))) (by rfl) (by decide) ?_
  rintro ⟨ad9, cap9⟩ -
  try dsimp only
  refine WL.eff (wanted_plain (by rfl)) (eff_append (by rfl) (by rfl) (by exact elem31) (by exact Try.underlying31) (by repeat (first | exact SelL.nil | exact SelL.self | apply SelL.cons | exact Sel.here | apply Sel.there | apply SelL.skip)) (by omega) (by omega)) (by rfl) (by decide) ?_
  rintro ⟨ad10, cap10⟩ -
  try dsimp only
  refine WL.yld (wanted_plain (by rfl)) (yld_assign (by rfl)) (by rfl) (by decide) ?_
  refine WL.done ?_
  refine WK.ret ?_
  repeat (first | refine RQ.block ?_ | refine RQ.then_ ?_)
  refine RQ.body (results1 (by rfl) (by rfl)) (fun w s => ?_)
  refine ⟨(ad10, cap10), trivial, by rw [hcl], ?_⟩
  rw [hcl, show (wholeM b).map bv = (uintB b.length ++ b).map bv ++ (uintB (hashN parcel b)).map bv from by unfold wholeM; rw [List.map_append]]
  exact s.toCs (by repeat (first | exact SelL.nil | exact SelL.self | apply SelL.cons | exact Sel.here | apply Sel.there | apply SelL.skip))
set_option maxRecDepth 20000 in
set_option maxHeartbeats 2000000 in
theorem refEncode_spec (x y : Int) (p : Bool) (ad : Option Addr) (len cap : Nat) (b : List UInt8) (hx : I64 x) (hy : I64 y) (hb : b.length ≤ 100000) :
    Triple Try.prog 29 #[.agg #[.int .i64 x, .int .i64 y, .slice ad len cap]] [sl p 5 1 ad len cap (b.map bv)] (Option Addr × Nat × Nat) (fun r => r.2.1 = (encM x y b).length) (fun r => .tuple #[.slice r.1 r.2.1 r.2.2, .int .i64 (if validB x y len then 0 else 1)]) (fun r => [sl true 5 1 r.1 r.2.1 r.2.2 ((encM x y b).map bv), sl p 5 1 ad len cap (b.map bv)]) := by
  refine Triple.of_body (args := [.agg #[.int .i64 x, .int .i64 y, .slice ad len cap]]) Try.func29 rfl Try.ntmps29 (by simp) (fun g F => ?_)
  dsimp only [numb, List.cons_append, List.nil_append]
  refine WK.know (fun w s => Sat.slLen (s.sel1 (A := sl p 5 1 ad len cap (b.map bv)) (by repeat (first | exact .here | apply Sel.there)))) (fun hkn => ?_)
  obtain ⟨n1, n1c, -⟩ := hkn
  simp only [Nat.mul_one, List.length_map] at n1
  subst n1
  have hcl := coreM_len hx hy (b := b) (by omega)
  have hwl := wholeM_len (c := coreM x y b) (by omega)
  have hcl2 := hcl
  simp only [coreM, List.length_append] at hcl2
  refine WK.seq ?_
  refine WK.region ?_
  refine WL.eff (wanted_plain (by rfl)) (eff_box (by rfl) (by rfl)) (by rfl) (by decide) ?_
  rintro b1 -
  try dsimp only
  refine WL.yld (wanted_plain (by rfl)) (yld_assign (by rfl)) (by rfl) (by decide) ?_
  refine WL.yld (wanted_plain (by rfl)) (yld_assign (by rfl)) (by rfl) (by decide) ?_
  refine WL.done ?_
  refine WK.seq ?_
  refine WK.region ?_
  refine WL.yld (wanted_plain (by rfl)) (yld_loadA (by rfl) (by exact Try.isAgg40) (by exact Try.sizeOf40) (by repeat (first | exact .here | apply Sel.there)) (by repeat (first | exact Cells.nil | apply Cells.cons | rfl))) (by rfl) (by decide) ?_
  refine WL.eff (wanted_plain (by rfl)) (eff_call (by exact Try.call45) (by repeat (first | exact Evs.nil | apply Evs.cons | rfl)) (by repeat (first | exact SelL.nil | exact SelL.self | apply SelL.cons | exact Sel.here | apply Sel.there | apply SelL.skip)) (refValid_spec x y ad b.length cap)) (by rfl) (by decide) ?_
  rintro _ -
  try dsimp only
  refine WL.yld (wanted_plain (by rfl)) (yld_assign (by rfl)) (by rfl) (by decide) ?_
  refine WL.done ?_
  refine WK.seq ?_
  refine WK.seq ?_
  refine WK.region ?_
  refine WL.yld (wanted_plain (by rfl)) (yld_move (by rfl)) (by rfl) (by decide) ?_
  refine WL.yld (wanted_plain (by rfl)) (yld_not (by rfl)) (by rfl) (by decide) ?_
  refine WL.done ?_
  refine WK.cond (by rfl) (fun hc8 => ?_) (fun hc8 => ?_)
  · skip
    obtain hv : validB x y b.length = false := by simpa using hc8
    rw [show encM x y b = [] from by unfold encM; rw [hv]; rfl, hv]
    refine WK.seq ?_
    refine WK.region ?_
    refine WL.yld (wanted_plain (by rfl)) (yld_assign (by rfl)) (by rfl) (by decide) ?_
    refine WL.yld (wanted_plain (by rfl)) (yld_assign (by rfl)) (by rfl) (by decide) ?_
    refine WL.done ?_
    refine WK.ret ?_
    repeat (first | refine RQ.block ?_ | refine RQ.then_ ?_)
    refine RQ.body (results2 (by rfl) (by rfl) (by rfl)) (fun w s => ?_)
    exact ⟨(none, 0, 0), rfl, rfl, Sat.toCs (Sat.nilSl s true 5 1) (by repeat (first | exact SelL.nil | exact SelL.self | apply SelL.cons | exact Sel.here | apply Sel.there | apply SelL.skip))⟩
  · skip
    obtain hv : validB x y b.length = true := by simpa using hc8
    rw [show encM x y b = wholeM (coreM x y b) from by unfold encM; rw [hv]; rfl, hv]
    refine WK.skip ?_
    refine WK.seq ?_
    refine WK.region ?_
    refine WL.yld (wanted_plain (by rfl)) (yld_loadA (by rfl) (by exact Try.isAgg40) (by exact Try.sizeOf40) (by repeat (first | exact .here | apply Sel.there)) (by repeat (first | exact Cells.nil | apply Cells.cons | rfl))) (by rfl) (by decide) ?_
    refine WL.eff (wanted_plain (by rfl)) (eff_call (by exact Try.call50) (by repeat (first | exact Evs.nil | apply Evs.cons | rfl)) (by repeat (first | exact SelL.nil | exact SelL.self | apply SelL.cons | exact Sel.here | apply Sel.there | apply SelL.skip)) (refCore_spec x y p ad b.length cap b hx hy hb)) (by rfl) (by decide) ?_
    rintro ⟨ad10, cap10⟩ -
    try dsimp only
    refine WL.eff (wanted_plain (by rfl)) (eff_call (by exact Try.call31) (by repeat (first | exact Evs.nil | apply Evs.cons | rfl)) (by repeat (first | exact SelL.nil | exact SelL.self | apply SelL.cons | exact Sel.here | apply Sel.there | apply SelL.skip)) (refWhole_spec true ad10 _ cap10 (coreM x y b) (by omega))) (by rfl) (by decide) ?_
    rintro ⟨ad11, cap11⟩ -
    try dsimp only
    refine WL.yld (wanted_plain (by rfl)) (yld_assign (by rfl)) (by rfl) (by decide) ?_
    refine WL.yld (wanted_plain (by rfl)) (yld_assign (by rfl)) (by rfl) (by decide) ?_
    refine WL.done ?_
    refine WK.ret ?_
    repeat (first | refine RQ.block ?_ | refine RQ.then_ ?_)
    refine RQ.body (results2 (by rfl) (by rfl) (by rfl)) (fun w s => ?_)
    exact ⟨(ad11, (wholeM (coreM x y b)).length, cap11), rfl, rfl, s.toCs (by repeat (first | exact SelL.nil | exact SelL.self | apply SelL.cons | exact Sel.here | apply Sel.there | apply SelL.skip))⟩
set_option maxRecDepth 20000 in
set_option maxHeartbeats 4000000 in
theorem refDecode_spec (ad : Option Addr) (len cap : Nat) (bs : List UInt8) (hl : len ≤ 100000) :
    Triple Try.prog 33 #[.slice ad len cap] [sl false 5 1 ad len cap (bs.map bv)] (Option Addr × Nat × Nat) (fun r => r.2.1 = (decM bs).1.2.2.length) (fun r => .tuple #[.agg #[.int .i64 (decM bs).1.1, .int .i64 (decM bs).1.2.1, .slice r.1 r.2.1 r.2.2], .int .i64 (decM bs).2]) (fun r => [sl false 5 1 r.1 r.2.1 r.2.2 ((decM bs).1.2.2.map bv), sl false 5 1 ad len cap (bs.map bv)]) := by
  refine Triple.of_body (args := [.slice ad len cap]) Try.func33 rfl Try.ntmps33 (by simp) (fun g F => ?_)
  dsimp only [numb, List.cons_append, List.nil_append]
  refine WK.know (fun w s => Sat.slLen (s.sel1 (A := sl false 5 1 ad len cap (bs.map bv)) (by repeat (first | exact .here | apply Sel.there)))) (fun hkn => ?_)
  obtain ⟨n1, n1c, -⟩ := hkn
  simp only [Nat.mul_one, List.length_map] at n1
  refine WK.seq ?_
  refine WK.region ?_
  refine WL.eff (wanted_plain (by rfl)) (eff_alloc (by exact Try.zeroValue40) (by rfl)) (by rfl) (by decide) ?_
  rintro b2 -
  try dsimp only
  refine WL.yld (wanted_plain (by rfl)) (yld_assign (by rfl)) (by rfl) (by decide) ?_
  refine WL.done ?_
  refine WK.seq ?_
  refine WK.region ?_
  refine WL.yld (wanted_plain (by rfl)) (yld_move (by rfl)) (by rfl) (by decide) ?_
  refine WL.yld (wanted_plain (by rfl)) (yld_build (by repeat (first | exact Prts.nil | apply Prts.cons | rfl)) (by exact Try.zeroValue99) (by exact Try.runUnderlying99) (by exact fun w => places99 w Try.underlying99) (by first | decide | simp) (by repeat (first | exact Fill.nil | apply Fill.cons | exact SetAts.nil | apply SetAts.cons | exact SetAt.here | apply SetAt.there | rfl))) (by rfl) (by decide) ?_
  refine WL.eff (wanted_plain (by rfl)) (eff_box (by rfl) (by rfl)) (by rfl) (by decide) ?_
  rintro b12 -
  try dsimp only
  refine WL.yld (wanted_plain (by rfl)) (yld_assign (by rfl)) (by rfl) (by decide) ?_
  refine WL.done ?_
  refine WK.sat (fun w s => Sat.rfNew (bs := bs) (s.sel (As := [row true b12 99 [.slice ad len cap, .int .i64 0], sl false 5 1 ad len cap (bs.map bv)]) (by repeat (first | exact SelL.nil | exact SelL.self | apply SelL.cons | exact Sel.here | apply Sel.there | apply SelL.skip)))) ?_
  refine WK.seq ?_
  refine WK.region ?_
  refine WL.yld (wanted_plain (by rfl)) (yld_move (by rfl)) (by rfl) (by decide) ?_
  refine WL.eff (wanted_plain (by rfl)) (eff_call (by exact Try.call55) (by repeat (first | exact Evs.nil | apply Evs.cons | rfl)) (by repeat (first | exact SelL.nil | exact SelL.self | apply SelL.cons | exact Sel.here | apply Sel.there | apply SelL.skip)) (rfRaw_spec b12 bs 0 (fun _ => by omega))) (by rfl) (by decide) ?_
  rintro ⟨⟨bs14, e14⟩, ad14, len14, cap14⟩ hx14
  have hx14 : RawQ bs 0 ((bs14, e14), (ad14, len14, cap14)) := hx14
  try dsimp only
  refine WL.yld (wanted_plain (by rfl)) (yld_assign (by rfl)) (by rfl) (by decide) ?_
  refine WL.done ?_
  refine WK.seq ?_
  refine WK.region ?_
  refine WL.yld (wanted_plain (by rfl)) (yld_move (by rfl)) (by rfl) (by decide) ?_
  refine WL.eff (wanted_plain (by rfl)) (eff_call (by exact Try.call56) (by repeat (first | exact Evs.nil | apply Evs.cons | rfl)) (by repeat (first | exact SelL.nil | exact SelL.self | apply SelL.cons | exact Sel.here | apply Sel.there | apply SelL.skip)) (rfUint_spec b12 bs14 e14)) (by rfl) (by decide) ?_
  rintro ⟨bs16, e16⟩ hx16
  have hx16 : UintQ bs14 e14 (bs16, e16) := hx16
  try dsimp only
  refine WL.yld (wanted_plain (by rfl)) (yld_assign (by rfl)) (by rfl) (by decide) ?_
  refine WL.done ?_
  refine WK.seq ?_
  refine WK.seq ?_
  refine WK.region ?_
  refine WL.yld (wanted_plain (by rfl)) (yld_move (by rfl)) (by rfl) (by decide) ?_
  refine WL.eff (wanted_plain (by rfl)) (eff_call (by exact Try.call57) (by repeat (first | exact Evs.nil | apply Evs.cons | rfl)) (by repeat (first | exact SelL.nil | exact SelL.self | apply SelL.cons | exact Sel.here | apply Sel.there | apply SelL.skip)) (rfEnd_spec b12 bs16 e16)) (by rfl) (by decide) ?_
  rintro _ -
  rw [show (if e16 = 0 ∧ bs16 ≠ [] then (2 : Int) else e16) = endV bs16 e16 from rfl]
  try dsimp only
  refine WL.yld (wanted_plain (by rfl)) (yld_neq (by rfl) (by rfl)) (by rfl) (by decide) ?_
  refine WL.done ?_
  refine WK.cond (by rfl) (fun hc19 => ?_) (fun hc19 => ?_)
  · skip
    have hc19 := of_decide_eq_true hc19
    rw [decM_top (top_bad hx14 hx16 (by omega))]
    refine WK.seq ?_
    refine WK.region ?_
    refine WL.yld (wanted_plain (by rfl)) (yld_build (by repeat (first | exact Prts.nil | apply Prts.cons | rfl)) (by exact Try.zeroValue40) (by exact Try.runUnderlying40) (by exact fun w => places40 w Try.underlying40) (by first | decide | simp) (by repeat (first | exact Fill.nil | apply Fill.cons | exact SetAts.nil | apply SetAts.cons | exact SetAt.here | apply SetAt.there | rfl))) (by rfl) (by decide) ?_
    refine WL.eff0 (wanted_plain (by rfl)) (eff_store (by rfl) (by rfl) (by exact Try.sizeOf40) (by rfl) (by rfl) (by rfl) (by repeat (first | exact .here | apply Sel.there)) (by repeat (first | exact SetAts.nil | apply SetAts.cons | exact SetAt.here | apply SetAt.there))) (by rfl) ?_
    rintro _ -
    try dsimp only
    refine WL.yld (wanted_plain (by rfl)) (yld_assign (by rfl)) (by rfl) (by decide) ?_
    refine WL.done ?_
    refine WK.ret ?_
    repeat (first | refine RQ.block ?_ | refine RQ.then_ ?_)
    refine RQ.body (resultsCT (by rfl) (by rfl) (by exact Try.isAgg40) (by exact Try.sizeOf40) (by repeat (first | exact .here | apply Sel.there)) (by repeat (first | exact Cells.nil | apply Cells.cons | rfl)) (by rfl)) (fun w s => ?_)
    exact ⟨(none, 0, 0), rfl, rfl, Sat.toCs (Sat.nilSl s false 5 1) (by repeat (first | exact SelL.nil | exact SelL.self | apply SelL.cons | exact Sel.here | apply Sel.there | apply SelL.skip))⟩
  · skip
    have hc19 := of_decide_eq_false hc19
    obtain ⟨c, m, htop, hlc, hrv, hum, hcl⟩ := top_ok hx14 hx16 (by omega)
    dsimp only at hlc
    subst hlc
    rw [hrv, hum]
    refine WK.skip ?_
    refine WK.seq ?_
    refine WK.seq ?_
    refine WK.region ?_
    refine WL.yld (wanted_plain (by rfl)) (yld_move (by rfl)) (by rfl) (by decide) ?_
    refine WL.yld (wanted_plain (by rfl)) (yld_move (by rfl)) (by rfl) (by decide) ?_
    refine WL.eff (wanted_plain (by rfl)) (eff_call (by exact Try.call53) (by repeat (first | exact Evs.nil | apply Evs.cons | rfl)) (by repeat (first | exact SelL.nil | exact SelL.self | apply SelL.cons | exact Sel.here | apply Sel.there | apply SelL.skip)) (refBytes_spec parcel false ad14 c.length cap14 c (by decide) (by omega))) (by rfl) (by decide) ?_
    rintro _ -
    rw [hashN_cast]
    try dsimp only
    refine WL.yld (wanted_plain (by rfl)) (yld_neq (by rfl) (by rfl)) (by rfl) (by decide) ?_
    refine WL.done ?_
    refine WK.cond (by rfl) (fun hc24 => ?_) (fun hc24 => ?_)
    · skip
      have hc24 := of_decide_eq_true hc24
      rw [decM_sum htop hc24]
      refine WK.seq ?_
      refine WK.region ?_
      refine WL.yld (wanted_plain (by rfl)) (yld_build (by repeat (first | exact Prts.nil | apply Prts.cons | rfl)) (by exact Try.zeroValue40) (by exact Try.runUnderlying40) (by exact fun w => places40 w Try.underlying40) (by first | decide | simp) (by repeat (first | exact Fill.nil | apply Fill.cons | exact SetAts.nil | apply SetAts.cons | exact SetAt.here | apply SetAt.there | rfl))) (by rfl) (by decide) ?_
      refine WL.eff0 (wanted_plain (by rfl)) (eff_store (by rfl) (by rfl) (by exact Try.sizeOf40) (by rfl) (by rfl) (by rfl) (by repeat (first | exact .here | apply Sel.there)) (by repeat (first | exact SetAts.nil | apply SetAts.cons | exact SetAt.here | apply SetAt.there))) (by rfl) ?_
      rintro _ -
      try dsimp only
      refine WL.yld (wanted_plain (by rfl)) (yld_assign (by rfl)) (by rfl) (by decide) ?_
      refine WL.done ?_
      refine WK.ret ?_
      repeat (first | refine RQ.block ?_ | refine RQ.then_ ?_)
      refine RQ.body (resultsCT (by rfl) (by rfl) (by exact Try.isAgg40) (by exact Try.sizeOf40) (by repeat (first | exact .here | apply Sel.there)) (by repeat (first | exact Cells.nil | apply Cells.cons | rfl)) (by rfl)) (fun w s => ?_)
      exact ⟨(none, 0, 0), rfl, rfl, Sat.toCs (Sat.nilSl s false 5 1) (by repeat (first | exact SelL.nil | exact SelL.self | apply SelL.cons | exact Sel.here | apply Sel.there | apply SelL.skip))⟩
    · skip
      have hc24 := of_decide_eq_false hc24
      have hc24 : (m : Int) = hashN parcel c := by omega
      refine WK.skip ?_
      refine WK.seq ?_
      refine WK.region ?_
      refine WL.yld (wanted_plain (by rfl)) (yld_move (by rfl)) (by rfl) (by decide) ?_
      refine WL.yld (wanted_plain (by rfl)) (yld_build (by repeat (first | exact Prts.nil | apply Prts.cons | rfl)) (by exact Try.zeroValue99) (by exact Try.runUnderlying99) (by exact fun w => places99 w Try.underlying99) (by first | decide | simp) (by repeat (first | exact Fill.nil | apply Fill.cons | exact SetAts.nil | apply SetAts.cons | exact SetAt.here | apply SetAt.there | rfl))) (by rfl) (by decide) ?_
      refine WL.eff (wanted_plain (by rfl)) (eff_box (by rfl) (by rfl)) (by rfl) (by decide) ?_
      rintro b28 -
      try dsimp only
      refine WL.yld (wanted_plain (by rfl)) (yld_assign (by rfl)) (by rfl) (by decide) ?_
      refine WL.done ?_
      refine WK.sat (fun w s => Sat.rfNew (bs := c) (s.sel (As := [row true b28 99 [.slice ad14 c.length cap14, .int .i64 0], sl false 5 1 ad14 c.length cap14 (c.map bv)]) (by repeat (first | exact SelL.nil | exact SelL.self | apply SelL.cons | exact Sel.here | apply Sel.there | apply SelL.skip)))) ?_
      refine WK.seq ?_
      refine WK.region ?_
      refine WL.yld (wanted_plain (by rfl)) (yld_move (by rfl)) (by rfl) (by decide) ?_
      refine WL.eff (wanted_plain (by rfl)) (eff_call (by exact Try.call58) (by repeat (first | exact Evs.nil | apply Evs.cons | rfl)) (by repeat (first | exact SelL.nil | exact SelL.self | apply SelL.cons | exact Sel.here | apply Sel.there | apply SelL.skip)) (rfInt_spec b28 c 0)) (by rfl) (by decide) ?_
      rintro ⟨bs30, e30⟩ hx30
      have hx30 : UintQ c 0 (bs30, e30) := hx30
      try dsimp only
      refine WL.yld (wanted_plain (by rfl)) (yld_build (by repeat (first | exact Prts.nil | apply Prts.cons | rfl)) (by exact Try.zeroValue40) (by exact Try.runUnderlying40) (by exact fun w => places40 w Try.underlying40) (by first | decide | simp) (by repeat (first | exact Fill.nil | apply Fill.cons | exact SetAts.nil | apply SetAts.cons | exact SetAt.here | apply SetAt.there | rfl))) (by rfl) (by decide) ?_
      refine WL.eff (wanted_plain (by rfl)) (eff_alloc (by exact Try.zeroValue40) (by rfl)) (by rfl) (by decide) ?_
      rintro b8 -
      try dsimp only
      refine WL.eff0 (wanted_plain (by rfl)) (eff_store (by rfl) (by rfl) (by exact Try.sizeOf40) (by rfl) (by rfl) (by rfl) (by repeat (first | exact .here | apply Sel.there)) (by repeat (first | exact SetAts.nil | apply SetAts.cons | exact SetAt.here | apply SetAt.there))) (by rfl) ?_
      rintro _ -
      try dsimp only
      refine WL.done ?_
      refine WK.seq ?_
      refine WK.region ?_
      refine WL.yld (wanted_plain (by rfl)) (yld_move (by rfl)) (by rfl) (by decide) ?_
      refine WL.eff (wanted_plain (by rfl)) (eff_call (by exact Try.call58) (by repeat (first | exact Evs.nil | apply Evs.cons | rfl)) (by repeat (first | exact SelL.nil | exact SelL.self | apply SelL.cons | exact Sel.here | apply Sel.there | apply SelL.skip)) (rfInt_spec b28 bs30 e30)) (by rfl) (by decide) ?_
      rintro ⟨bs33, e33⟩ hx33
      have hx33 : UintQ bs30 e30 (bs33, e33) := hx33
      try dsimp only
      refine WL.yld (wanted_plain (by rfl)) (yld_fieldAddr (by rfl) (by exact Try.runUnderlying40) (by rfl) (by exact Try.sizeOf3) (by rfl) (by rfl)) (by rfl) (by decide) ?_
      refine WL.eff0 (wanted_plain (by rfl)) (eff_store (by rfl) (by rfl) (by exact Try.sizeOf3) (by rfl) (by rfl) (by rfl) (by repeat (first | exact .here | apply Sel.there)) (by repeat (first | exact SetAts.nil | apply SetAts.cons | exact SetAt.here | apply SetAt.there))) (by rfl) ?_
      rintro _ -
      try dsimp only
      refine WL.done ?_
      refine WK.seq ?_
      refine WK.region ?_
      refine WL.yld (wanted_plain (by rfl)) (yld_move (by rfl)) (by rfl) (by decide) ?_
      refine WL.eff (wanted_plain (by rfl)) (eff_call (by exact Try.call55) (by repeat (first | exact Evs.nil | apply Evs.cons | rfl)) (by repeat (first | exact SelL.nil | exact SelL.self | apply SelL.cons | exact Sel.here | apply Sel.there | apply SelL.skip)) (rfRaw_spec b28 bs33 e33 (fun h => by have h1 := hx30.rest; have h2 := hx33.rest; have h3 := hx33.e0 h; omega))) (by rfl) (by decide) ?_
      rintro ⟨⟨bs36, e36⟩, ad36, len36, cap36⟩ hx36
      have hx36 : RawQ bs33 e33 ((bs36, e36), (ad36, len36, cap36)) := hx36
      try dsimp only
      refine WL.yld (wanted_plain (by rfl)) (yld_fieldAddr (by rfl) (by exact Try.runUnderlying40) (by rfl) (by exact Try.sizeOf31) (by rfl) (by rfl)) (by rfl) (by decide) ?_
      refine WL.eff0 (wanted_plain (by rfl)) (eff_store (by rfl) (by rfl) (by exact Try.sizeOf31) (by rfl) (by rfl) (by rfl) (by repeat (first | exact .here | apply Sel.there)) (by repeat (first | exact SetAts.nil | apply SetAts.cons | exact SetAt.here | apply SetAt.there))) (by rfl) ?_
      rintro _ -
      try dsimp only
      refine WL.done ?_
      refine WK.seq ?_
      refine WK.region ?_
      refine WL.yld (wanted_plain (by rfl)) (yld_loadA (by rfl) (by exact Try.isAgg40) (by exact Try.sizeOf40) (by repeat (first | exact .here | apply Sel.there)) (by repeat (first | exact Cells.nil | apply Cells.cons | rfl))) (by rfl) (by decide) ?_
      refine WL.eff (wanted_plain (by rfl)) (eff_call (by exact Try.call45) (by repeat (first | exact Evs.nil | apply Evs.cons | rfl)) (by repeat (first | exact SelL.nil | exact SelL.self | apply SelL.cons | exact Sel.here | apply Sel.there | apply SelL.skip)) (refValid_spec _ _ ad36 len36 cap36)) (by rfl) (by decide) ?_
      rintro _ -
      try dsimp only
      refine WL.yld (wanted_plain (by rfl)) (yld_assign (by rfl)) (by rfl) (by decide) ?_
      refine WL.done ?_
      refine WK.seq ?_
      refine WK.seq ?_
      refine WK.region ?_
      refine WL.yld (wanted_plain (by rfl)) (yld_move (by rfl)) (by rfl) (by decide) ?_
      refine WL.eff (wanted_plain (by rfl)) (eff_call (by exact Try.call57) (by repeat (first | exact Evs.nil | apply Evs.cons | rfl)) (by repeat (first | exact SelL.nil | exact SelL.self | apply SelL.cons | exact Sel.here | apply Sel.there | apply SelL.skip)) (rfEnd_spec b28 bs36 e36)) (by rfl) (by decide) ?_
      rintro _ -
      rw [show (if e36 = 0 ∧ bs36 ≠ [] then (2 : Int) else e36) = endV bs36 e36 from rfl]
      try dsimp only
      refine WL.yld (wanted_plain (by rfl)) (yld_neq (by rfl) (by rfl)) (by rfl) (by decide) ?_
      refine WL.yld (wanted_plain (by rfl)) (yld_move (by rfl)) (by rfl) (by decide) ?_
      refine WL.split (d := 43) (by rfl) (fun hc43 => ?_) (fun hc43 => ?_)
      · skip
        have hc43 := of_decide_eq_true hc43
        rw [decM_inner htop hc24 (inner_bad hx30 hx33 hx36 (by omega))]
        refine WL.skip (unwanted_some (by rfl) (by rfl) (by rfl) (by rfl)) (by rfl) (by decide) ?_
        refine WL.skip (unwanted_some (by rfl) (by rfl) (by rfl) (by rfl)) (by rfl) (by decide) ?_
        refine WL.yld (wanted_plain (by rfl)) (yld_pick_true (by rfl) (by rfl)) (by rfl) (by decide) ?_
        refine WL.done ?_
        refine WK.cond (by rfl) (fun _ => ?_) (fun h => by cases h)
        refine WK.seq ?_
        refine WK.region ?_
        refine WL.yld (wanted_plain (by rfl)) (yld_build (by repeat (first | exact Prts.nil | apply Prts.cons | rfl)) (by exact Try.zeroValue40) (by exact Try.runUnderlying40) (by exact fun w => places40 w Try.underlying40) (by first | decide | simp) (by repeat (first | exact Fill.nil | apply Fill.cons | exact SetAts.nil | apply SetAts.cons | exact SetAt.here | apply SetAt.there | rfl))) (by rfl) (by decide) ?_
        refine WL.eff0 (wanted_plain (by rfl)) (eff_store (by rfl) (by rfl) (by exact Try.sizeOf40) (by rfl) (by rfl) (by rfl) (by repeat (first | exact .here | apply Sel.there)) (by repeat (first | exact SetAts.nil | apply SetAts.cons | exact SetAt.here | apply SetAt.there))) (by rfl) ?_
        rintro _ -
        try dsimp only
        refine WL.yld (wanted_plain (by rfl)) (yld_assign (by rfl)) (by rfl) (by decide) ?_
        refine WL.done ?_
        refine WK.ret ?_
        repeat (first | refine RQ.block ?_ | refine RQ.then_ ?_)
        refine RQ.body (resultsCT (by rfl) (by rfl) (by exact Try.isAgg40) (by exact Try.sizeOf40) (by repeat (first | exact .here | apply Sel.there)) (by repeat (first | exact Cells.nil | apply Cells.cons | rfl)) (by rfl)) (fun w s => ?_)
        exact ⟨(none, 0, 0), rfl, rfl, Sat.toCs (Sat.nilSl s false 5 1) (by repeat (first | exact SelL.nil | exact SelL.self | apply SelL.cons | exact Sel.here | apply Sel.there | apply SelL.skip))⟩
      · skip
        have hc43 := of_decide_eq_false hc43
        obtain ⟨z1, z2, b, hz1, hz2, hv1, hv2, hrv2, hlb, hin⟩ := inner_ok hx30 hx33 hx36 (by omega)
        dsimp only at hlb
        subst hlb
        rw [hv1, hv2, hrv2]
        refine WL.yld (wanted_some (by rfl) (by rfl) (by rfl)) (yld_move (by rfl)) (by rfl) (by decide) ?_
        refine WL.yld (wanted_some (by rfl) (by rfl) (by rfl)) (yld_not (by rfl)) (by rfl) (by decide) ?_
        refine WL.yld (wanted_plain (by rfl)) (yld_pick_false (by rfl) (by rfl)) (by rfl) (by decide) ?_
        refine WL.done ?_
        refine WK.cond (by rfl) (fun hc46 => ?_) (fun hc46 => ?_)
        · skip
          have hvv : validB (unzig z1) (unzig z2) b.length = false := by simpa using hc46
          rw [hvv, if_neg (by simp)] at hin
          rw [decM_inner htop hc24 hin]
          refine WK.seq ?_
          refine WK.region ?_
          refine WL.yld (wanted_plain (by rfl)) (yld_build (by repeat (first | exact Prts.nil | apply Prts.cons | rfl)) (by exact Try.zeroValue40) (by exact Try.runUnderlying40) (by exact fun w => places40 w Try.underlying40) (by first | decide | simp) (by repeat (first | exact Fill.nil | apply Fill.cons | exact SetAts.nil | apply SetAts.cons | exact SetAt.here | apply SetAt.there | rfl))) (by rfl) (by decide) ?_
          refine WL.eff0 (wanted_plain (by rfl)) (eff_store (by rfl) (by rfl) (by exact Try.sizeOf40) (by rfl) (by rfl) (by rfl) (by repeat (first | exact .here | apply Sel.there)) (by repeat (first | exact SetAts.nil | apply SetAts.cons | exact SetAt.here | apply SetAt.there))) (by rfl) ?_
          rintro _ -
          try dsimp only
          refine WL.yld (wanted_plain (by rfl)) (yld_assign (by rfl)) (by rfl) (by decide) ?_
          refine WL.done ?_
          refine WK.ret ?_
          repeat (first | refine RQ.block ?_ | refine RQ.then_ ?_)
          refine RQ.body (resultsCT (by rfl) (by rfl) (by exact Try.isAgg40) (by exact Try.sizeOf40) (by repeat (first | exact .here | apply Sel.there)) (by repeat (first | exact Cells.nil | apply Cells.cons | rfl)) (by rfl)) (fun w s => ?_)
          exact ⟨(none, 0, 0), rfl, rfl, Sat.toCs (Sat.nilSl s false 5 1) (by repeat (first | exact SelL.nil | exact SelL.self | apply SelL.cons | exact Sel.here | apply Sel.there | apply SelL.skip))⟩
        · skip
          have hvv : validB (unzig z1) (unzig z2) b.length = true := by simpa using hc46
          rw [hvv, if_pos rfl] at hin
          rw [decM_good htop hc24 hin]
          refine WK.skip ?_
          refine WK.seq ?_
          refine WK.region ?_
          refine WL.yld (wanted_plain (by rfl)) (yld_loadA (by rfl) (by exact Try.isAgg40) (by exact Try.sizeOf40) (by repeat (first | exact .here | apply Sel.there)) (by repeat (first | exact Cells.nil | apply Cells.cons | rfl))) (by rfl) (by decide) ?_
          refine WL.eff0 (wanted_plain (by rfl)) (eff_store (by rfl) (by rfl) (by exact Try.sizeOf40) (by rfl) (by rfl) (by rfl) (by repeat (first | exact .here | apply Sel.there)) (by repeat (first | exact SetAts.nil | apply SetAts.cons | exact SetAt.here | apply SetAt.there))) (by rfl) ?_
          rintro _ -
          try dsimp only
          refine WL.yld (wanted_plain (by rfl)) (yld_assign (by rfl)) (by rfl) (by decide) ?_
          refine WL.done ?_
          refine WK.ret ?_
          repeat (first | refine RQ.block ?_ | refine RQ.then_ ?_)
          refine RQ.body (resultsCT (by rfl) (by rfl) (by exact Try.isAgg40) (by exact Try.sizeOf40) (by repeat (first | exact .here | apply Sel.there)) (by repeat (first | exact Cells.nil | apply Cells.cons | rfl)) (by rfl)) (fun w s => ?_)
          exact ⟨(ad36, b.length, cap36), rfl, rfl, s.toCs (by repeat (first | exact SelL.nil | exact SelL.self | apply SelL.cons | exact Sel.here | apply Sel.there | apply SelL.skip))⟩
end Go.Proofs.Ytnknclbiamhnaaa
