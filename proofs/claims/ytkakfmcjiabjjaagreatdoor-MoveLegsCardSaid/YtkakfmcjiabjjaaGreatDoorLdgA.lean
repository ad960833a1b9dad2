import Derived.Test.YtkakfmcjiabjjaaGreatDoorMoveR
namespace Go.Proofs.YtkakfmcjiabjjaaGreatDoor
set_option linter.unusedVariables false
set_option linter.unusedSimpArgs false
set_option linter.unusedSectionVars false
set_option linter.unnecessarySimpa false
open Go Go.Sep
attribute [local irreducible] row sl mapO held exL allR byt mapI slr mapK rangeK vec pack
def addL (st : StkM) (p : Place) (x : LotM) : StkM := kset st p ((kget st p).getD [] ++ [x])
def lotK (k : Nat) (n : Int) : LotM := ⟨0 * 4294967296 + (k : Int), 0, n⟩
theorem keys_at : ∀ {ms : List (Place × Value)} {st : StkM} (p : Place), ms.map (·.1) = st.map (·.1) → (kget ms p = none ∧ kget st p = none) ∨ ∃ (i : Nat) (v : Value) (l : List LotM), ms[i]? = some (p, v) ∧ st[i]? = some (p, l) ∧ kget ms p = some v ∧ kget st p = some l
  | [], [], _, _ => .inl ⟨rfl, rfl⟩
  | [], _ :: _, _, h => by simp at h
  | _ :: _, [], _, h => by simp at h
  | (k, v) :: ms, (k2, l) :: st, p, h => by
    simp only [List.map_cons, List.cons.injEq] at h
    obtain ⟨h0, h⟩ := h
    subst h0
    by_cases e : k = p
    · subst e
      exact .inr ⟨0, v, l, rfl, rfl, by simp [kget], by simp [kget]⟩
    · rcases keys_at p h with ⟨h1, h2⟩ | ⟨i, v2, l2, h1, h2, h3, h4⟩
      · exact .inl ⟨by simp [kget, e, h1], by simp [kget, e, h2]⟩
      · exact .inr ⟨i + 1, v2, l2, by simpa using h1, by simpa using h2, by simp [kget, e, h3], by simp [kget, e, h4]⟩
theorem kset_mem {β : Type} {p : Place} {l : β} {x : Place × β} : ∀ {st : List (Place × β)}, x ∈ kset st p l → x = (p, l) ∨ x ∈ st
  | [], h => by simp [kset] at h; exact .inl h
  | (k, u) :: st, h => by
    by_cases e : k = p
    · simp only [kset, if_pos e, List.mem_cons] at h
      rcases h with h | h
      · exact .inl h
      · exact .inr (by simp [h])
    · simp only [kset, if_neg e, List.mem_cons] at h
      rcases h with h | h
      · exact .inr (by simp [h])
      · rcases kset_mem h with h | h
        · exact .inl h
        · exact .inr (by simp [h])
theorem kset_key {β : Type} {p j : Place} {l : β} {st : List (Place × β)} (h : j ∈ (kset st p l).map (·.1)) : j = p ∨ j ∈ st.map (·.1) := by
  obtain ⟨x, hx, rfl⟩ := List.mem_map.1 h
  rcases kset_mem hx with rfl | hx
  · exact .inl rfl
  · exact .inr (List.mem_map_of_mem hx)
theorem kset_nodup {β : Type} {p : Place} {l : β} : ∀ {st : List (Place × β)}, (st.map (·.1)).Nodup → ((kset st p l).map (·.1)).Nodup
  | [], _ => by simp [kset]
  | (k, u) :: st, h => by
    simp only [List.map_cons, List.nodup_cons] at h
    by_cases e : k = p
    · subst e
      simp only [kset, if_pos, List.map_cons, List.nodup_cons]
      exact h
    · simp only [kset, if_neg e, List.map_cons, List.nodup_cons]
      refine ⟨fun hm => ?_, kset_nodup h.2⟩
      rcases kset_key hm with hm | hm
      · exact e hm
      · exact h.1 hm
theorem kset_keys {p : Place} {v : Value} {l : List LotM} : ∀ {ms : List (Place × Value)} {st : StkM}, ms.map (·.1) = st.map (·.1) → (kset ms p v).map (·.1) = (kset st p l).map (·.1)
  | [], [], _ => by simp [kset]
  | [], _ :: _, h => by simp at h
  | _ :: _, [], h => by simp at h
  | (k, u) :: ms, (k2, l2) :: st, h => by
    simp only [List.map_cons, List.cons.injEq] at h
    obtain ⟨h0, h⟩ := h
    subst h0
    by_cases e : k = p
    · simp only [kset, if_pos e, List.map_cons, h]
    · simp only [kset, if_neg e, List.map_cons]
      exact congrArg (k :: ·) (kset_keys h)
theorem kget_mem {β : Type} {p : Place} {l : β} : ∀ {st : List (Place × β)}, kget st p = some l → (p, l) ∈ st
  | [], h => by simp [kget] at h
  | (k, u) :: st, h => by
    by_cases e : k = p
    · simp only [kget, if_pos e, Option.some.injEq] at h
      subst e h
      simp
    · simp only [kget, if_neg e] at h
      exact List.mem_cons_of_mem _ (kget_mem h)
/-- What a ledger of k spawns holds. -/
structure LInv (st : StkM) (k : Nat) : Prop where
  nodup : (st.map (·.1)).Nodup
  lots : ∀ x ∈ st, VL x.2 ∧ x.2 ≠ []
  accs : ∀ x ∈ st, (1 ≤ x.1.1 ∧ x.1.1 ≤ 1073741824) ∧ (0 ≤ x.1.2 ∧ x.1.2 < 4)
  short : ∀ x ∈ st, x.2.length ≤ k
  len : st.length ≤ k
theorem LInv.ok {st : StkM} {k : Nat} (h : LInv st k) {ms : List (Place × Value)} (hk : ms.map (·.1) = st.map (·.1)) : StkOk ms st := ⟨hk, h.nodup, h.lots, h.accs⟩
theorem LInv.start : LInv [] 0 := ⟨by simp, by simp, by simp, by simp, by simp⟩
theorem LInv.old {st : StkM} {k : Nat} (h : LInv st k) (p : Place) : VL ((kget st p).getD []) ∧ ((kget st p).getD []).length ≤ k := by
  cases e : kget st p with
  | none => exact ⟨⟨by simp, by simp⟩, by simp⟩
  | some l => exact ⟨(h.lots _ (kget_mem e)).1, h.short _ (kget_mem e)⟩
theorem LInv.add {st : StkM} {k : Nat} (h : LInv st k) (hk : k ≤ 4000) {a it n : Int} (ha : 1 ≤ a ∧ a ≤ 1073741824) (hit : 0 ≤ it ∧ it < 4) (hn : 1 ≤ n ∧ n ≤ 40) : LInv (addL st (a, it) (lotK k n)) (k + 1) := by
  obtain ⟨ho, hol⟩ := h.old (a, it)
  refine ⟨kset_nodup h.nodup, fun x hx => ?_, fun x hx => ?_, fun x hx => ?_, ?_⟩
  · rcases kset_mem hx with rfl | hx
    · refine ⟨⟨by simp only [List.length_append, List.length_singleton]; omega, fun y hy => ?_⟩, by simp⟩
      rcases List.mem_append.1 hy with hy | hy
      · exact ho.2 y hy
      · obtain rfl : y = _ := by simpa using hy
        unfold okLot lotK
        dsimp only
        omega
    · exact h.lots x hx
  · rcases kset_mem hx with rfl | hx
    · exact ⟨ha, hit⟩
    · exact h.accs x hx
  · rcases kset_mem hx with rfl | hx
    · simp only [List.length_append, List.length_singleton]; omega
    · have := h.short x hx
      omega
  · have := kset_len (m := st) (k := ((a, it) : Place)) (v := (kget st (a, it)).getD [] ++ [lotK k n])
    have := h.len
    unfold addL
    omega
theorem ticks_more {k : Nat} {xs : List Value} (h : Ticks k xs) (a b c d e f : Value) : Ticks (k + 1) (xs ++ [a, b, c, .int .i64 0, d, e, f]) := by
  refine ⟨by simp [h.1]; omega, fun i hi => ?_⟩
  rcases Nat.lt_or_ge i k with hk | hk
  · rw [List.getElem?_append_left (by have := h.1; omega)]
    exact h.2 i hk
  · obtain rfl : i = k := by omega
    rw [List.getElem?_append_right (by have := h.1; omega), h.1, Nat.add_sub_cancel_left]
    rfl
/-- A ledger of shard 0: its catalog, what it holds, k steps, k flows. -/
def ledI (q : Nat) (st : StkM) (k : Nat) (W : LedW) (xs : List Value) (ms : List (Place × Value)) (tot : List Int) (fxs : List Value) : List HProp := [row true q 120 (ledRow 0 k k W), mapK plE true W.sb ms, stkV ms st, sl true 62 7 W.sa k W.sc xs, sl true 3 1 W.ta 4 W.tc (tot.map (Value.int .i64)), sl true 141 11 W.fa k W.fc fxs, mapK (fun i : Int => Value.int .i64 i) true W.ib [], mapK (fun i : Int => Value.int .i64 i) true W.gb []]
def ledφ (st : StkM) (k : Nat) (xs : List Value) (ms : List (Place × Value)) (tot : List Int) : Prop := Ticks k xs ∧ ms.map (·.1) = st.map (·.1) ∧ tot.length = 4 ∧ ∀ t ∈ tot, 0 ≤ t ∧ t ≤ 40 * (k : Int)
def ledP (q : Nat) (st : StkM) (k : Nat) : HProp := exL (ι := LedW × List Value × List (Place × Value) × List Int × List Value) (fun x => ledφ st k x.2.1 x.2.2.1 x.2.2.2.1) (fun x => ledI q st k x.1 x.2.1 x.2.2.1 x.2.2.2.1 x.2.2.2.2)
theorem Sat.ledOpen {g w : World} {Ps : List HProp} {q : Nat} {st : StkM} {k : Nat} (s : Sat g w (ledP q st k :: Ps)) : ∃ x : LedW × List Value × List (Place × Value) × List Int × List Value, ledφ st k x.2.1 x.2.2.1 x.2.2.2.1 ∧ Sat g w (ledI q st k x.1 x.2.1 x.2.2.1 x.2.2.2.1 x.2.2.2.2 ++ Ps) := s.exOpen
theorem Sat.ledShut {g w : World} {Ps : List HProp} {q : Nat} {st : StkM} {k : Nat} (W : LedW) (xs : List Value) (ms : List (Place × Value)) (tot : List Int) (fxs : List Value) (h : ledφ st k xs ms tot) (s : Sat g w (ledI q st k W xs ms tot fxs ++ Ps)) : Sat g w (ledP q st k :: Ps) := Sat.exShut (ι := LedW × List Value × List (Place × Value) × List Int × List Value) (W, xs, ms, tot, fxs) h s
/-- The stack of a place, as the map's value reads. -/
theorem Sat.stkAt {g w : World} {Ps : List HProp} {ms : List (Place × Value)} {st : StkM} (hk : ms.map (·.1) = st.map (·.1)) (p : Place) (s : Sat g w (stkV ms st :: Ps)) : ∃ x : Option Addr × Nat, (kget ms p).getD (.slice none 0 0) = .slice x.1 ((kget st p).getD []).length x.2 ∧ Sat g w (sl false 145 3 x.1 ((kget st p).getD []).length x.2 (flat lotC ((kget st p).getD [])) :: stkV ms st :: Ps) := by
  rcases keys_at p hk with ⟨h1, h2⟩ | ⟨i, v, l, h1, h2, h3, h4⟩
  · rw [h1, h2]
    exact ⟨(none, 0), rfl, Sat.nilSl s false 145 3⟩
  · rw [h3, h4]
    have s2 := Sat.allGet (fun v x => dup_vec (e := lotC) 145 3 v x) (v := v) (x := l) (i := i) (by rw [List.getElem?_map, h1]; rfl) (by rw [List.getElem?_map, h2]; rfl) s
    obtain ⟨x, hx, s3⟩ := s2.vecOpen
    exact ⟨x, hx, s3⟩
theorem Sat.stkSet {g w : World} {p : Place} {v : Value} {l : List LotM} : ∀ {ms : List (Place × Value)} {st : StkM} {Ps : List HProp}, ms.map (·.1) = st.map (·.1) → Sat g w (vec false 145 3 lotC v l :: stkV ms st :: Ps) → Sat g w (stkV (kset ms p v) (kset st p l) :: Ps)
  | [], [], _, _, s => Sat.allCons (v := v) (x := l) s
  | [], _ :: _, _, h, _ => by simp at h
  | _ :: _, [], _, h, _ => by simp at h
  | (k, u) :: ms, (k2, l2) :: st, Ps, h, s => by
    simp only [List.map_cons, List.cons.injEq] at h
    obtain ⟨h0, h⟩ := h
    subst h0
    have s3 : Sat g w (vec false 145 3 lotC u l2 :: stkV ms st :: vec false 145 3 lotC v l :: Ps) := Sat.allUncons (s.perm (.swap _ _ _))
    by_cases e : k = p
    · simp only [kset, if_pos e]
      exact Sat.allCons (v := v) (x := l) ((Sat.drop (l := [_]) s3).perm (.swap _ _ _))
    · simp only [kset, if_neg e]
      have s4 : Sat g w (stkV (kset ms p v) (kset st p l) :: vec false 145 3 lotC u l2 :: Ps) := Sat.stkSet h (s3.toCs (by repeat (first | exact SelL.nil | exact SelL.self | apply SelL.cons | exact Sel.here | apply Sel.there | apply SelL.skip)))
      exact Sat.allCons (v := u) (x := l2) (s4.perm (.swap _ _ _))
theorem Triple.led {P : Program} {f : FuncId} {args : Array Value} {ι : Type} {φ : ι → Prop} {val : ι → Value} {rest : ι → List HProp} (q : Nat) (st : StkM) (k : Nat)
    (t : ∀ (W : LedW) (ms : List (Place × Value)), ms.map (·.1) = st.map (·.1) → Triple P f args [row true q 120 (ledRow 0 k k W), mapK plE true W.sb ms, stkV ms st] ι φ val (fun x => row true q 120 (ledRow 0 k k W) :: mapK plE true W.sb ms :: stkV ms st :: rest x)) : Triple P f args [ledP q st k] ι φ val (fun x => ledP q st k :: rest x) := by
  intro g w F s
  obtain ⟨⟨W, xs, ms, tot, fxs⟩, h, s⟩ := Sat.ledOpen s
  dsimp only at h s
  have hks := h.2.1
  refine (t W ms hks g w ([sl true 62 7 W.sa k W.sc xs, sl true 3 1 W.ta 4 W.tc (tot.map (Value.int .i64)), sl true 141 11 W.fa k W.fc fxs, mapK (fun i : Int => Value.int .i64 i) true W.ib [], mapK (fun i : Int => Value.int .i64 i) true W.gb []] ++ F) s).mono ?_
  rintro e w' ⟨x, hx, he, s2⟩
  refine ⟨x, hx, he, Sat.ledShut W xs ms tot fxs h ?_⟩
  refine s2.perm ?_
  simp only [ledI, List.cons_append, List.nil_append, List.append_assoc]
  refine .cons _ (.cons _ (.cons _ ?_))
  rw [show (sl true 62 7 W.sa k W.sc xs :: sl true 3 1 W.ta 4 W.tc (tot.map (Value.int .i64)) :: sl true 141 11 W.fa k W.fc fxs :: mapK (fun i : Int => Value.int .i64 i) true W.ib [] :: mapK (fun i : Int => Value.int .i64 i) true W.gb [] :: F) = [sl true 62 7 W.sa k W.sc xs, sl true 3 1 W.ta 4 W.tc (tot.map (Value.int .i64)), sl true 141 11 W.fa k W.fc fxs, mapK (fun i : Int => Value.int .i64 i) true W.ib [], mapK (fun i : Int => Value.int .i64 i) true W.gb []] ++ F from rfl, ← List.append_assoc]
  refine .trans (List.Perm.append_right F List.perm_append_comm) ?_
  simp only [List.cons_append, List.nil_append]
  exact .refl _
theorem postL_spec (q : Nat) (st : StkM) (k : Nat) (hi : LInv st k) (hk : k ≤ 3900) (a n : Int) (it : Nat) (ha : 1 ≤ a ∧ a ≤ 1073741824) (hit : it < 4) (hn : 1 ≤ n ∧ n ≤ 40) (p : Bool) (ad : Option Addr) (cap : Nat) :
    Triple Tryz.prog 27 #[.pointer (some ⟨q, 0, none⟩), .agg #[.int .i64 0, .int .i64 0, .int .i64 0, .int .i64 0, .int .i64 (-1), .int .i64 0, .slice ad 1 cap]] [ledP q st k, sl p 59 5 ad 1 cap (flat moveC [(⟨0, a, (it : Int), n⟩ : MoveM)])] Unit (fun _ => True) (fun _ => .tuple #[.int .i64 (0 * 4294967296 + (k : Int)), .int .i64 0]) (fun _ => [ledP q (addL st (a, (it : Int)) (lotK k n)) (k + 1), sl p 59 5 ad 1 cap (flat moveC [(⟨0, a, (it : Int), n⟩ : MoveM)])]) := by
  intro g w F s
  obtain ⟨⟨W, xs, ms, tot, fxs⟩, h, s⟩ := Sat.ledOpen s
  dsimp only at h s
  obtain ⟨hx, hks, htl, ht⟩ := h
  obtain ⟨t, htt⟩ : ∃ t, tot[it]? = some t := ⟨_, List.getElem?_eq_getElem (by omega)⟩
  have hti := ht t (List.mem_of_getElem? htt)
  obtain ⟨⟨oa, oc⟩, hkk, s⟩ := Sat.stkAt hks (a, (it : Int)) (s.sel1 (A := stkV ms st) (by repeat (first | exact .here | apply Sel.there)))
  obtain ⟨ho, hol⟩ := hi.old (a, (it : Int))
  dsimp only at hkk s
  have hpost := post_spec q 0 k k W xs hx (by omega) ms a n it tot t oa ((kget st (a, (it : Int))).getD []).length oc ((kget st (a, (it : Int))).getD []) (by decide) (by omega) ha hit (by omega) htt (by omega) (by omega) ho.2 hkk p ad cap fxs
  refine (hpost g w (stkV ms st :: F) (s.toCs (by repeat (first | exact SelL.nil | exact SelL.self | apply SelL.cons | exact Sel.here | apply Sel.there | apply SelL.skip)))).mono ?_
  rintro e w' ⟨⟨d, ⟨fa2, fc2⟩, ⟨sa2, sc2⟩, ⟨ma, mc⟩⟩, -, rfl, s2⟩
  refine ⟨(), trivial, rfl, ?_⟩
  dsimp only at s2
  have s3 := Sat.vecShut (e := lotC) (l := (kget st (a, (it : Int))).getD [] ++ [lotK k n]) (by simp) (Sat.slFreeze (s2.sel1 (A := sl true 145 3 d.la (((kget st (a, (it : Int))).getD []).length + 1) d.lc (flat lotC ((kget st (a, (it : Int))).getD [] ++ [lotK k n]))) (by repeat (first | exact .here | apply Sel.there))))
  have s4 := Sat.stkSet (p := (a, (it : Int))) hks (s3.sel (As := [vec false 145 3 lotC (.slice d.la (((kget st (a, (it : Int))).getD []).length + 1) d.lc) ((kget st (a, (it : Int))).getD [] ++ [lotK k n]), stkV ms st]) (by repeat (first | exact SelL.nil | exact SelL.self | apply SelL.cons | exact Sel.here | apply Sel.there | apply SelL.skip)))
  refine Sat.ledShut (st := addL st (a, (it : Int)) (lotK k n)) ⟨W.ia, W.ic, W.sb, d.ta, d.tc, fa2, fc2, sa2, sc2, W.ib, W.gb⟩ (xs ++ [.int .i64 (0 * 4294967296 + (k : Int)), .int .i64 0, .int .i64 0, .int .i64 0, .int .i64 (-1), .int .i64 0, .slice ma 1 mc]) (kset ms (a, (it : Int)) (.slice d.la (((kget st (a, (it : Int))).getD []).length + 1) d.lc)) (tot.set it (t + n)) (fxs ++ [.int .i64 (0 * 4294967296 + (k : Int)), .int .i64 (0 * 4294967296 + (k : Int)), .int .i64 0, .int .i64 0, .int .i64 0, .int .i64 0, .int .i64 a, .int .i64 (it : Int), .int .i64 n, .slice none 0 0, .slice none 0 0]) ⟨ticks_more hx _ _ _ _ _ _, kset_keys hks, by simp [htl], fun y hy => ?_⟩ (s4.toCs (by repeat (first | exact SelL.nil | exact SelL.self | apply SelL.cons | exact Sel.here | apply Sel.there | apply SelL.skip)))
  rcases List.mem_or_eq_of_mem_set hy with hy | rfl
  · have := ht y hy
    omega
  · omega
theorem legsL_spec (q : Nat) (st : StkM) (k : Nat) (hi : LInv st k) (h12 : k ≤ 12) (s1 a to : Int) (ha : 1 ≤ a ∧ a ≤ 1073741824) (hs1 : 0 ≤ s1 ∧ s1 < 12) (hto : 0 ≤ to ∧ to < 12) (hne : s1 ≠ to) :
    Triple Tryz.prog 30 #[.pointer (some ⟨q, 0, none⟩), .int .i64 s1, .int .i64 a, .int .i64 to] [ledP q st k] (List AmtM × (Option Addr × Nat) × Nat) (fun x => x.1.Perm (amOf a (st.map holdOf)) ∧ sortedA x.1) (legV) (fun x => [ledP q st k, legP s1 a to x]) :=
  Triple.led q st k fun W ms hk => legs_spec true q 0 k k W ms st (hi.ok hk) (by have := hi.len; omega) s1 a to ha hs1 hto hne
set_option maxRecDepth 20000 in
set_option maxHeartbeats 1000000 in
theorem balanceL_spec (q : Nat) (st : StkM) (k : Nat) (hi : LInv st k) (hk : k ≤ 3900) (a it : Int) :
  Triple Tryz.prog 31 #[.pointer (some ⟨q, 0, none⟩), .int .i64 a, .int .i64 it] [ledP q st k] (Unit) (fun _ => True) (fun _ => .int .i64 (totM ((kget st (a, it)).getD []))) (fun _ => [ledP q st k]) := by
 refine Triple.of_body (args := [.pointer (some ⟨q, 0, none⟩), .int .i64 a, .int .i64 it]) Tryz.func31 rfl Tryz.ntmps31 (by simp) (fun g F => ?_)
 dsimp only [numb, List.cons_append, List.nil_append]
 refine WK.openS (fun w s => Sat.ledOpen (s.sel1 (A := ledP q st k) (by repeat (first | exact .here | apply Sel.there)))) ?_
 rintro ⟨W, xs, ms, tot, fxs⟩ hled
 dsimp only [ledI, List.cons_append, List.nil_append] at hled ⊢
 have hks := hled.2.1
 obtain ⟨hol, hlen⟩ := hi.old (a, it)
 refine WK.openS (fun w s => Sat.stkAt hks (a, it) (s.sel1 (A := stkV ms st) (by repeat (first | exact .here | apply Sel.there)))) ?_
 rintro ⟨oa, oc⟩ hkk
 dsimp only at hkk ⊢
 refine WK.seq ?_
 refine WK.region ?_
 refine Ly y_assign ?_
 refine WL.done ?_
 refine WK.seq ?_
 refine WK.region ?_
 refine Ly y_move ?_
 refine Ly y_nilCheck ?_
 refine Ly (y_fieldAddr (hu := by exact Tryz.runUnderlying120) (hs := by exact Tryz.sizeOf114)) ?_
 refine Ly (y_load (ha := by exact Tryz.isAgg114)) ?_
 refine Ly y_move ?_
 refine Ly y_move ?_
 refine Ly (y_build (hz := by exact Tryz.zeroValue116) (hu := by exact Tryz.runUnderlying116) (hp := by exact fun w => places116 w Tryz.underlying116) (hne := by first | decide | simp)) ?_
 refine Ly (y_lookupK1 (k := ((a, it))) (hu := by exact Tryz.runUnderlying114) (L := plLaw) (hz := by exact Tryz.zeroValue57)) ?_
 rw [hkk]
 refine Le (e_call (by exact Tryz.call56) (t := (totalL_spec false oa ((kget st (a, it)).getD []).length oc ((kget st (a, it)).getD []) (by omega) hol))) ?_
 rintro _ -
 try dsimp only
 refine Ly y_assign ?_
 refine WL.done ?_
 refine WK.ret ?_
 repeat (first | refine RQ.block ?_ | refine RQ.then_ ?_)
 refine RQ.body (results1 (by rfl) (by rfl)) (fun w s => ?_)
 exact ⟨(), trivial, rfl, Sat.ledShut W xs ms tot fxs hled (s.toCs (by repeat (first | exact SelL.nil | exact SelL.self | apply SelL.cons | exact Sel.here | apply Sel.there | apply SelL.skip)))⟩
set_option maxRecDepth 20000 in
set_option maxHeartbeats 1000000 in
theorem legsBad_spec (v : Value) (s1 a to : Int) (hb : ¬ ((1 ≤ a ∧ a ≤ 1073741824) ∧ (0 ≤ s1 ∧ s1 < 12) ∧ (0 ≤ to ∧ to < 12) ∧ s1 ≠ to)) :
  Triple Tryz.prog 30 #[v, .int .i64 s1, .int .i64 a, .int .i64 to] [] (Unit) (fun _ => True) (fun _ => .tuple #[.slice none 0 0, .int .i64 1]) (fun _ => []) := by
 refine Triple.of_body (args := [v, .int .i64 s1, .int .i64 a, .int .i64 to]) Tryz.func30 rfl Tryz.ntmps30 (by simp) (fun g F => ?_)
 dsimp only [numb, List.cons_append, List.nil_append]
 refine WK.seq ?_
 refine WK.region ?_
 refine Ly y_assign ?_
 refine Ly y_assign ?_
 refine WL.done ?_
 refine WK.seq ?_
 refine WK.seq ?_
 refine WK.region ?_
 refine Ly y_move ?_
 refine Le (e_call (by exact Tryz.call34) (t := account_spec a)) ?_
 rintro _ -
 try dsimp only
 refine Ly y_not ?_
 refine Ly y_move ?_
 refine WL.split (d := 16) (by rfl) (fun hc16 => ?_) (fun hc16 => ?_)
 ·
  refine Lz ?_
  refine Lz ?_
  refine Lz ?_
  refine Lz ?_
  refine Lz ?_
  refine Ly y_pick_true ?_
  refine Ly y_move ?_
  refine Lz ?_
  refine Lz ?_
  refine Lz ?_
  refine Ly y_pick_true ?_
  refine WL.done ?_
  refine Kcond (ht := fun _ => ?_) (hf := fun h => by cases h)
  refine WK.seq ?_
  refine WK.region ?_
  refine Ly y_assign ?_
  refine Ly y_assign ?_
  refine WL.done ?_
  refine WK.ret ?_
  repeat (first | refine RQ.block ?_ | refine RQ.then_ ?_)
  refine RQ.body (results2 (by rfl) (by rfl) (by rfl)) (fun w s => ?_)
  exact ⟨(), trivial, rfl, s.toCs (by repeat (first | exact SelL.nil | exact SelL.self | apply SelL.cons | exact Sel.here | apply Sel.there | apply SelL.skip))⟩
 ·
  refine Lyg y_move ?_
  refine Lyg y_move ?_
  refine Leg (e_mkSliceN (by exact Tryz.runUnderlying22) (by exact Tryz.sizeOf3) (by exact Tryz.zeroValue3) (hb := by decide) (hk0 := by rfl) (hl0 := by rfl) (h1 := by rfl)) ?_
  rintro b19 -
  try dsimp only [List.cons_append, List.nil_append]
  try dsimp only
  refine Leg (e_call (by exact Tryz.call39) (t := (shards_spec (some ⟨b19, 0, none⟩) 2 2 [s1, to] (by decide)))) ?_
  rintro _ -
  try dsimp only
  refine Lyg y_not ?_
  refine Ly y_pick_false ?_
  refine Ly y_move ?_
  refine WL.split (d := 23) (by rfl) (fun hc23 => ?_) (fun hc23 => ?_)
  ·
   refine Lz ?_
   refine Lz ?_
   refine Lz ?_
   refine Ly y_pick_true ?_
   refine WL.done ?_
   refine Kcond (ht := fun _ => ?_) (hf := fun h => by cases h)
   refine WK.seq ?_
   refine WK.region ?_
   refine Ly y_assign ?_
   refine Ly y_assign ?_
   refine WL.done ?_
   refine WK.ret ?_
   repeat (first | refine RQ.block ?_ | refine RQ.then_ ?_)
   refine RQ.body (results2 (by rfl) (by rfl) (by rfl)) (fun w s => ?_)
   exact ⟨(), trivial, rfl, s.toCs (by repeat (first | exact SelL.nil | exact SelL.self | apply SelL.cons | exact Sel.here | apply Sel.there | apply SelL.skip))⟩
  ·
   refine Lyg y_move ?_
   refine Lyg y_move ?_
   refine Lyg y_eql ?_
   refine Ly y_pick_false ?_
   refine WL.done ?_
   refine Kcond (ht := fun hc27 => ?_) (hf := fun hc27 => ?_)
   ·
    have hc27 := of_decide_eq_true hc27
    refine WK.seq ?_
    refine WK.region ?_
    refine Ly y_assign ?_
    refine Ly y_assign ?_
    refine WL.done ?_
    refine WK.ret ?_
    repeat (first | refine RQ.block ?_ | refine RQ.then_ ?_)
    refine RQ.body (results2 (by rfl) (by rfl) (by rfl)) (fun w s => ?_)
    exact ⟨(), trivial, rfl, s.toCs (by repeat (first | exact SelL.nil | exact SelL.self | apply SelL.cons | exact Sel.here | apply Sel.there | apply SelL.skip))⟩
   ·
    have hc27 := of_decide_eq_false hc27
    exfalso
    simp at hc16 hc23 hc27
    omega
end Go.Proofs.YtkakfmcjiabjjaaGreatDoor
