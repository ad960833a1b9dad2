import Derived.Test.YtkakfmcjiabjjaaGreatDoorProg
import Derived.Test.YtkakfmcjiabjjaaGreatDoorSepX
namespace Go.Proofs.YtkakfmcjiabjjaaGreatDoor
set_option linter.unusedVariables false
set_option linter.unusedSimpArgs false
set_option linter.unusedSectionVars false
set_option linter.unnecessarySimpa false
open Go Go.Sep
attribute [local irreducible] row sl mapO held exL allR byt mapI slr
def aroundM (i m : Int) : Int := if i < 0 then (-(i + 1)) % m else i % m
theorem aroundM_range (i m : Int) (hm : 1 ≤ m) : 0 ≤ aroundM i m ∧ aroundM i m < m := by
  unfold aroundM
  split
  · exact ⟨Int.emod_nonneg _ (by omega), Int.emod_lt_of_pos _ (by omega)⟩
  · exact ⟨Int.emod_nonneg _ (by omega), Int.emod_lt_of_pos _ (by omega)⟩
/-- Element i of l modulo most, 0 where there is none. -/
def pickM (l : List Int) (i most : Int) : Int := if i < 0 ∨ (l.length : Int) ≤ i then 0 else aroundM (l[i.toNat]?.getD 0) most
theorem pickM_range (l : List Int) (i most : Int) (hm : 1 ≤ most) : 0 ≤ pickM l i most ∧ pickM l i most < most := by
  unfold pickM
  split
  · omega
  · exact aroundM_range _ _ hm
structure HomeM where
  frm : Int
  shard : Int
def homesC : List HomeM → List Value
  | [] => []
  | h :: l => .int .i64 h.frm :: .int .i64 h.shard :: homesC l
theorem homesC_app : ∀ (l m : List HomeM), homesC (l ++ m) = homesC l ++ homesC m
  | [], _ => rfl
  | h :: l, m => by simp [homesC, homesC_app l m]
theorem homesC_len : ∀ (l : List HomeM), (homesC l).length = l.length * 2
  | [] => rfl
  | h :: l => by simp [homesC, homesC_len l]; omega
theorem homesC_f : ∀ {l : List HomeM} {i k : Nat} {h : HomeM}, l[i]? = some h → i * 2 = k → (homesC l)[k]? = some (.int .i64 h.frm)
  | [], _, _, _, e, _ => by simp at e
  | x :: l, 0, k, h, e, hk => by
    obtain rfl : 0 = k := by omega
    cases e
    rfl
  | x :: l, i + 1, k, h, e, hk => by
    obtain rfl : i * 2 + 2 = k := by omega
    exact homesC_f (l := l) (by simpa using e) rfl
theorem homesC_s : ∀ {l : List HomeM} {i k : Nat} {h : HomeM}, l[i]? = some h → i * 2 + 1 = k → (homesC l)[k]? = some (.int .i64 h.shard)
  | [], _, _, _, e, _ => by simp at e
  | x :: l, 0, k, h, e, hk => by
    obtain rfl : 1 = k := by omega
    cases e
    rfl
  | x :: l, i + 1, k, h, e, hk => by
    obtain rfl : i * 2 + 1 + 2 = k := by omega
    exact homesC_s (l := l) (by simpa using e) rfl
theorem homesC_cells {l : List HomeM} {i : Nat} {h : HomeM} (e : l[i]? = some h) : Cells (homesC l) (i * 2) 2 [.int .i64 h.frm, .int .i64 h.shard] :=
  .cons (homesC_f e rfl) (.cons (homesC_s e rfl) .nil)
theorem homesC_set : ∀ (l : List HomeM) (i : Nat) (h : HomeM), l[i]? = some h → ∀ n : Int, (homesC l).set (i * 2) (.int .i64 n) = homesC (l.set i ⟨n, h.shard⟩) ∧ (homesC l).set (i * 2 + 1) (.int .i64 n) = homesC (l.set i ⟨h.frm, n⟩)
  | [], _, _, e, _ => by simp at e
  | x :: l, 0, h, e, n => by cases e; exact ⟨rfl, rfl⟩
  | x :: l, i + 1, h, e, n => by
    have ih := homesC_set l i h (by simpa using e) n
    constructor
    · show _ = _ :: _ :: homesC (l.set i _)
      rw [← ih.1, show (i + 1) * 2 = i * 2 + 2 from by omega]
      rfl
    · show _ = _ :: _ :: homesC (l.set i _)
      rw [← ih.2, show (i + 1) * 2 + 1 = i * 2 + 1 + 2 from by omega]
      rfl
/-- Entry number i of homes is good, the one before it being given. -/
def okAt (sh : Int) (l : List HomeM) (i : Nat) : Prop :=
  ∀ h, l[i]? = some h → 0 ≤ h.shard ∧ h.shard < sh ∧ h.frm ≤ 1073741824 ∧ (i = 0 → h.frm = 1) ∧ ∀ p, 0 < i → l[i - 1]? = some p → p.frm < h.frm ∧ h.shard ≠ p.shard
def VH (sh : Int) (l : List HomeM) : Prop := 1 ≤ sh ∧ sh ≤ 12 ∧ l ≠ [] ∧ ∀ i, okAt sh l i
noncomputable instance (sh : Int) (l : List HomeM) : Decidable (VH sh l) := Classical.propDecidable _
theorem VH_no1 {sh : Int} {l : List HomeM} (h : sh < 1 ∨ 12 < sh ∨ l.length = 0) : ¬ VH sh l := by
  rintro ⟨h1, h2, h3, -⟩
  rcases h with h | h | h
  · omega
  · omega
  · exact h3 (List.eq_nil_of_length_eq_zero h)
theorem VH_no2 {sh : Int} {l : List HomeM} {i : Nat} (h : ¬ okAt sh l i) : ¬ VH sh l := fun v => h (v.2.2.2 i)
theorem VH_frm {sh : Int} {l : List HomeM} (v : ∀ j, okAt sh l j) : ∀ {i : Nat} {h : HomeM}, l[i]? = some h → 1 ≤ h.frm
  | 0, h, e => by have := (v 0 h e).2.2.2.1 rfl; omega
  | i + 1, h, e => by
    have hl : i < l.length := by
      have := (List.getElem?_eq_some_iff.1 e).1
      omega
    have ih := VH_frm v (i := i) (h := l[i]) (List.getElem?_eq_getElem hl)
    have := ((v (i + 1) h e).2.2.2.2 l[i] (by omega) (by simpa using List.getElem?_eq_getElem hl)).1
    omega
theorem okAt_frm {sh : Int} {l : List HomeM} : ∀ {i : Nat} {h : HomeM}, (∀ j, j ≤ i → okAt sh l j) → l[i]? = some h → 1 ≤ h.frm
  | 0, h, v, e => by have := (v 0 (Nat.le_refl _) h e).2.2.2.1 rfl; omega
  | i + 1, h, v, e => by
    have hl : i < l.length := by
      have := (List.getElem?_eq_some_iff.1 e).1
      omega
    have ih := okAt_frm (i := i) (h := l[i]) (fun j hj => v j (by omega)) (List.getElem?_eq_getElem hl)
    have := ((v (i + 1) (Nat.le_refl _) h e).2.2.2.2 l[i] (by omega) (by simpa using List.getElem?_eq_getElem hl)).1
    omega
def findF (a : Int) (s : Int) (h : HomeM) : Int := if h.frm ≤ a then h.shard else s
/-- The shard of the last entry that does not begin behind a. -/
def findM (l : List HomeM) (a : Int) : Int := l.foldl (findF a) 0
theorem findM_more {l : List HomeM} {i : Nat} {h : HomeM} (e : l[i]? = some h) (a : Int) : findM (l.take (i + 1)) a = findF a (findM (l.take i) a) h := by
  unfold findM
  rw [List.take_add_one, e, List.foldl_append]
  rfl
def normF (o : List HomeM) (x : Int × Int) : List HomeM := if o.getLast?.map (·.shard) = some x.2 then o else o ++ [⟨x.1, x.2⟩]
/-- Ranges one behind the other, those of one shard side by side being made one. -/
def normM (l : List (Int × Int)) : List HomeM := l.foldl normF []
/-! ### Ranges -/
def endM (l : List HomeM) (i : Nat) : Int := match l[i + 1]? with | some g => g.frm - 1 | none => 1073741824
/-- The first account of each range, the last one, and the shard. -/
def rangesM : List HomeM → List (Int × Int × Int)
  | [] => []
  | [h] => [(h.frm, 1073741824, h.shard)]
  | h :: g :: r => (h.frm, g.frm - 1, h.shard) :: rangesM (g :: r)
theorem rangesM_len : ∀ l, (rangesM l).length = l.length
  | [] => rfl
  | [_] => rfl
  | h :: g :: r => by simp [rangesM, rangesM_len (g :: r)]
theorem rangesM_get : ∀ {l : List HomeM} {i : Nat} {h : HomeM}, l[i]? = some h → (rangesM l)[i]? = some (h.frm, endM l i, h.shard)
  | [], _, _, e => by simp at e
  | [x], 0, h, e => by cases e; rfl
  | [x], i + 1, h, e => by simp at e
  | x :: y :: r, 0, h, e => by cases e; rfl
  | x :: y :: r, i + 1, h, e => by
    have := rangesM_get (l := y :: r) (i := i) (h := h) (by simpa using e)
    simpa [rangesM, endM] using this
theorem foldF_stay {a : Int} : ∀ {l : List HomeM} {s : Int}, (∀ h ∈ l, a < h.frm) → l.foldl (findF a) s = s
  | [], _, _ => rfl
  | h :: l, s, k => by
    have h1 := k h (by simp)
    rw [List.foldl_cons, findF, if_neg (by omega)]
    exact foldF_stay fun x hx => k x (by simp [hx])
def Inc (l : List HomeM) : Prop := l.Pairwise fun p q => p.frm < q.frm
theorem VH_inc {sh : Int} {l : List HomeM} (v : VH sh l) : Inc l := by
  have key : ∀ (i j : Nat) (p q : HomeM), i < j → l[i]? = some p → l[j]? = some q → p.frm < q.frm := by
    intro i j
    induction j with
    | zero => intro p q h; omega
    | succ j ih =>
      intro p q hij hp hq
      have hl : j < l.length := by have := (List.getElem?_eq_some_iff.1 hq).1; omega
      have h1 := ((v.2.2.2 (j + 1) q hq).2.2.2.2 l[j] (by omega) (by simpa using List.getElem?_eq_getElem hl)).1
      by_cases h : i = j
      · subst h
        rw [List.getElem?_eq_getElem hl] at hp
        cases hp
        exact h1
      · have := ih p l[j] (by omega) hp (List.getElem?_eq_getElem hl)
        omega
  rw [Inc, List.pairwise_iff_getElem]
  intro i j hi hj hij
  exact key i j _ _ hij (List.getElem?_eq_getElem hi) (List.getElem?_eq_getElem hj)
theorem ranges_hit {a : Int} (ha : a ≤ 1073741824) : ∀ {l : List HomeM} {s : Int} {x : Int × Int × Int}, Inc l → x ∈ rangesM l → x.1 ≤ a → a ≤ x.2.1 → l.foldl (findF a) s = x.2.2
  | [], _, _, _, h, _, _ => by simp [rangesM] at h
  | [h], s, x, _, hx, h1, h2 => by
    simp only [rangesM, List.mem_singleton] at hx
    subst hx
    simp only [List.foldl_cons, List.foldl_nil, findF]
    rw [if_pos h1]
  | h :: g :: r, s, x, hi, hx, h1, h2 => by
    simp only [rangesM, List.mem_cons] at hx
    obtain ⟨hh, hr⟩ := List.pairwise_cons.1 hi
    rcases hx with rfl | hx
    · rw [List.foldl_cons, findF, if_pos h1]
      refine foldF_stay fun y hy => ?_
      dsimp only at h2
      rcases List.mem_cons.1 hy with rfl | hy
      · omega
      · have := (List.pairwise_cons.1 hr).1 y hy
        omega
    · rw [List.foldl_cons]
      exact ranges_hit ha hr (by simpa using hx) h1 h2
theorem ranges_some {a : Int} (ha : a ≤ 1073741824) : ∀ {l : List HomeM} {h : HomeM}, h.frm ≤ a → ∃ x ∈ rangesM (h :: l), x.1 ≤ a ∧ a ≤ x.2.1
  | [], h, h1 => ⟨_, List.mem_singleton.2 rfl, h1, ha⟩
  | g :: r, h, h1 => by
    by_cases hg : g.frm ≤ a
    · obtain ⟨x, hx, k⟩ := ranges_some ha (l := r) (h := g) hg
      exact ⟨x, List.mem_cons_of_mem _ hx, k⟩
    · exact ⟨_, List.mem_cons_self, h1, by dsimp only; omega⟩
theorem VH_some {sh a : Int} {l : List HomeM} (v : VH sh l) (h1 : 1 ≤ a) (h2 : a ≤ 1073741824) : ∃ x ∈ rangesM l, x.1 ≤ a ∧ a ≤ x.2.1 := by
  cases l with
  | nil => exact absurd rfl v.2.2.1
  | cons h r =>
    have := (v.2.2.2 0 h rfl).2.2.2.1 rfl
    exact ranges_some h2 (by omega)
theorem elem23 : ElemT Tryz.prog 23 83 2 16 := ⟨Tryz.underlying23, ⟨Tryz.t83, _, by kernel_rfl, rfl, rfl, rfl, rfl⟩⟩
theorem elem30 : ElemT Tryz.prog 30 84 2 16 := ⟨Tryz.underlying30, ⟨Tryz.t84, _, by kernel_rfl, rfl, rfl, rfl, rfl⟩⟩
theorem elem22 : ElemT Tryz.prog 22 3 1 8 := ⟨Tryz.underlying22, ⟨Tryz.t3, _, by kernel_rfl, rfl, rfl, rfl, rfl⟩⟩
theorem places83 (w : World) : ∀ {fs : Array Field}, Tryz.prog.underlying 83 = some (.struct fs) → Sem.run Tryz.prog (fs.mapM fun f => Prod.mk f.offset <$> sizeOf f.type) w = .ok #[(0, 1), (1, 1)] w := by
  intro fs h
  rw [Tryz.underlying83] at h
  cases h
  simp
theorem places84 (w : World) : ∀ {fs : Array Field}, Tryz.prog.underlying 84 = some (.struct fs) → Sem.run Tryz.prog (fs.mapM fun f => Prod.mk f.offset <$> sizeOf f.type) w = .ok #[(0, 1), (1, 1)] w := by
  intro fs h
  rw [Tryz.underlying84] at h
  cases h
  simp
set_option maxRecDepth 20000 in
set_option maxHeartbeats 2000000 in
theorem ranges_iter (q : Nat) (p : Bool) (ad : Option Addr) (len cap : Nat) (l : List HomeM) (hlen : len ≤ 1000000) (hb : ∀ h ∈ l, 1 ≤ h.frm ∧ h.frm ≤ 1073741824) :
  Iter Tryz.prog 61 [.pointer (some ⟨q, 0, none⟩)] [row true q 30 [.slice ad len cap], sl p 84 2 ad len cap (homesC l)] (α := Int × Int × Int) (fun x => [.int .i64 x.1, .agg #[.int .i64 x.2.1, .int .i64 x.2.2]]) (fun xs => xs = rangesM l) := by
 refine Iter.of_body (v := .tuple #[]) Tryz.func61 rfl Tryz.ntmps61 (by simp) (fun β I Ix J Jx l0 g hY b F hI Rr hdone hstop => ?_)
 dsimp only [numb, List.cons_append, List.nil_append]
 refine WK.know (fun w s => Sat.slLen (s.sel1 (A := sl p 84 2 ad len cap (homesC l)) (by repeat (first | exact .here | apply Sel.there)))) (fun hkn => ?_)
 obtain ⟨n1, -⟩ := hkn
 rw [homesC_len] at n1
 replace n1 : l.length = _ := Nat.eq_of_mul_eq_mul_right (by omega) n1
 refine WK.seq ?_
 refine WK.region ?_
 refine Ly (y_load (ha := by exact Tryz.isAgg30)) ?_
 refine Ly (y_len (hu := by exact Tryz.runUnderlying30)) ?_
 refine Ly y_move ?_
 refine WL.done ?_
 refine WK.block ?_
 refine Kloop (ι := Nat × β) (fun x => x.1 ≤ len ∧ I ((rangesM l).take x.1) x.2) (fun x => [(0, .func (.yield l0) #[] #[]), (1, .pointer (some ⟨q, 0, none⟩)), (6, .slice ad len cap), (7, .int .i64 (len : Int)), (8, .int .i64 (x.1 : Int))]) (fun x => J x.2 :: row true q 30 [.slice ad len cap] :: sl p 84 2 ad len cap (homesC l) :: F) (fun x => len - x.1) ((0, b)) (⟨Nat.zero_le _, hI⟩) (round := ?_)
 rintro ⟨i, b⟩ ⟨hi, hIp⟩ N hN
 dsimp only at hi hIp ⊢
 refine WK.seq ?_
 refine WK.region ?_
 refine Ly y_lss ?_
 refine WL.done ?_
 refine WK.seq ?_
 refine Kcond (ht := fun hc9 => ?_) (hf := fun hc9 => ?_)
 ·
  have hc9 := of_decide_eq_true hc9
  obtain ⟨h, hx⟩ : ∃ x, l[i]? = some x := ⟨_, List.getElem?_eq_getElem (by omega)⟩
  have hh := hb h (List.mem_of_getElem? hx)
  have hsplit : ∃ ys, rangesM l = (rangesM l).take i ++ (h.frm, endM l i, h.shard) :: ys := ⟨(rangesM l).drop (i + 1), by
    have hl : i < (rangesM l).length := by rw [rangesM_len]; omega
    have e := rangesM_get hx
    rw [List.getElem?_eq_getElem hl] at e
    rw [← Option.some.inj e, List.getElem_cons_drop, List.take_append_drop]⟩
  refine WK.skip ?_
  refine WK.seq ?_
  refine WK.block ?_
  refine WK.seq ?_
  refine WK.region ?_
  refine Ly y_move ?_
  refine Ly (y_indexAddrS (hu := by exact Tryz.runUnderlying30) (hz := by exact Tryz.sizeOf84) (j := i) (hi := by first | rfl | omega) (hj' := by omega) (hj := by omega)) ?_
  refine Ly (y_loadSA (ha := by exact Tryz.isAgg84) (hm := by exact Tryz.sizeOf84) (hv := by exact homesC_cells hx)) ?_
  refine Le (e_alloc (by exact Tryz.zeroValue84)) ?_
  rintro b4 -
  try dsimp only
  refine Ly y_assign ?_
  refine Le0 (e_store (hk := by exact Tryz.sizeOf84) (h1 := by rfl)) ?_
  rintro _ -
  try dsimp only
  refine WL.done ?_
  refine WK.seq ?_
  refine WK.region ?_
  refine Ly y_assign ?_
  refine WL.done ?_
  refine WK.seq ?_
  refine WK.seq ?_
  refine WK.region ?_
  refine Ly y_move ?_
  refine Ly y_add ?_
  refine Ly (y_load (ha := by exact Tryz.isAgg30)) ?_
  refine Ly (y_len (hu := by exact Tryz.runUnderlying30)) ?_
  refine Ly y_lss ?_
  refine WL.done ?_
  refine WK.cut (ι := Unit) (fun _ => True) (fun _ => [(0, .func (.yield l0) #[] #[]), (1, .pointer (some ⟨q, 0, none⟩)), (6, .slice ad len cap), (7, .int .i64 (len : Int)), (8, .int .i64 (i : Int)), (3, .int .i64 (i : Int)), (4, .pointer (some ⟨b4, 0, none⟩)), (5, .int .i64 (endM l i))]) (fun _ => J b :: row true q 30 [.slice ad len cap] :: sl p 84 2 ad len cap (homesC l) :: row true b4 84 [.int .i64 h.frm, .int .i64 h.shard] :: F) ?_ ?_
  ·
   rintro _ -
   refine WK.seq ?_
   refine WK.region ?_
   refine Ly y_move ?_
   refine Ly (y_fieldAddr (hu := by exact Tryz.runUnderlying84) (hs := by exact Tryz.sizeOf3)) ?_
   refine Ly (y_load (ha := by exact Tryz.isAgg3)) ?_
   refine Ly y_move ?_
   refine Ly (y_fieldAddr (hu := by exact Tryz.runUnderlying84) (hs := by exact Tryz.sizeOf3)) ?_
   refine Ly (y_load (ha := by exact Tryz.isAgg3)) ?_
   refine Ly (y_buildA (hz := by exact Tryz.zeroValue38) (hu := by exact Tryz.runUnderlying38) (hs := by exact Tryz.sizeOf3) (hne := by rfl)) ?_
   refine Lr (eR_yield hY (pre := (rangesM l).take i) (x := (h.frm, endM l i, h.shard)) (b := b) (hv := by rfl) (hS := (by obtain ⟨ys, h⟩ := hsplit; exact ⟨ys, h.symm⟩)) (hI := hIp)) ?_
   rintro ⟨b32, t32⟩ hz32
   try dsimp only
   refine Ly y_not ?_
   refine WL.done ?_
   refine Kcond (ht := fun hc33 => ?_) (hf := fun hc33 => ?_)
   ·
    obtain rfl : t32 = false := by simpa using hc33
    dsimp only [cond] at hz32 ⊢
    refine WK.ret ?_
    repeat (first | refine RQ.block ?_ | refine RQ.then_ ?_)
    refine RQ.body (results0 (by rfl)) (fun w s => ?_)
    exact hstop _ b32 hz32 w (s.toCs (by repeat (first | exact SelL.nil | exact SelL.self | apply SelL.cons | exact Sel.here | apply Sel.there | apply SelL.skip)))
   ·
    obtain rfl : t32 = true := by simpa using hc33
    dsimp only [cond] at hz32 ⊢
    refine WK.skip ?_
    refine WK.endBlock ?_
    refine WK.region ?_
    refine Ly y_add ?_
    refine Ly y_move ?_
    refine WL.done ?_
    refine Knext hN (i + 1, b32) ⟨by dsimp only; omega, ?_⟩ (by dsimp only; omega)
    rw [List.take_add_one, rangesM_get hx]
    exact hz32
  ·
   intro J17
   refine Kcond (ht := fun hc17 => ?_) (hf := fun hc17 => ?_)
   ·
    have hc17 := of_decide_eq_true hc17
    obtain ⟨g, hg⟩ : ∃ x, l[i + 1]? = some x := ⟨_, List.getElem?_eq_getElem (by omega)⟩
    have hgb := hb g (List.mem_of_getElem? hg)
    refine WK.region ?_
    refine Ly (y_load (ha := by exact Tryz.isAgg30)) ?_
    refine Ly y_move ?_
    refine Ly y_add ?_
    refine Ly (y_indexAddrS (hu := by exact Tryz.runUnderlying30) (hz := by exact Tryz.sizeOf84) (j := i + 1) (hi := by first | rfl | omega) (hj' := by omega) (hj := by omega)) ?_
    refine Ly (y_fieldAddrS (hu := by exact Tryz.runUnderlying84) (hs := by exact Tryz.sizeOf3)) ?_
    refine Ly (y_loadS (ha := by exact Tryz.isAgg3) (hv := by exact homesC_f hg (by rfl))) ?_
    refine Ly y_sub ?_
    refine Ly y_assign ?_
    refine WL.done ?_
    exact Kgoto J17 () trivial (hK := (by repeat (first | exact KK.nil | refine KK.cons (by first | rfl | (simp [Sep.look, endM, hg]; done)) ?_)))
   ·
    have hc17 := of_decide_eq_false hc17
    refine WK.skip ?_
    exact Kgoto J17 () trivial (hK := (by repeat (first | exact KK.nil | refine KK.cons (by first | rfl | (simp [Sep.look, endM, List.getElem?_eq_none (show l.length ≤ i + 1 by omega)]; done)) ?_)))
 ·
  have hc9 := of_decide_eq_false hc9
  refine WK.exit ?_
  repeat (first | refine XQ.then_ ?_ | refine XQ.block (by rfl) ?_)
  refine XQ.here ?_
  refine WK.fall (results0 (by rfl)) (fun w s => ?_)
  exact hdone _ b rfl (by rw [List.take_of_length_le (by rw [rangesM_len]; omega)] at hIp; exact hIp) w (s.toCs (by repeat (first | exact SelL.nil | exact SelL.self | apply SelL.cons | exact Sel.here | apply Sel.there | apply SelL.skip)))
set_option maxRecDepth 20000 in
set_option maxHeartbeats 1000000 in
theorem around_spec (i m : Int) (hi : -9223372036854775808 ≤ i ∧ i ≤ 9223372036854775807) (hm : 1 ≤ m) :
  Triple Tryz.prog 10 #[.int .i64 i, .int .i64 m] [] (Unit) (fun _ => True) (fun _ => .int .i64 (aroundM i m)) (fun _ => []) := by
 refine Triple.of_body (args := [.int .i64 i, .int .i64 m]) Tryz.func10 rfl Tryz.ntmps10 (by simp) (fun g F => ?_)
 dsimp only [numb, List.cons_append, List.nil_append]
 refine WK.seq ?_
 refine WK.region ?_
 refine Ly y_assign ?_
 refine WL.done ?_
 refine WK.seq ?_
 refine WK.seq ?_
 refine WK.region ?_
 refine Ly y_move ?_
 refine Ly y_lss ?_
 refine WL.done ?_
 refine Kcond (ht := fun hc6 => ?_) (hf := fun hc6 => ?_)
 ·
  have hc6 := of_decide_eq_true hc6
  refine WK.region ?_
  refine Ly y_move ?_
  refine Ly y_add ?_
  refine Ly y_neg ?_
  refine Ly y_assign ?_
  refine WL.done ?_
  refine WK.seq ?_
  refine WK.region ?_
  refine Ly y_move ?_
  refine Ly y_move ?_
  refine Ly (y_rem (hr := by exact Int.tmod_eq_emod_of_nonneg (by omega))) ?_
  refine Ly y_assign ?_
  refine WL.done ?_
  refine WK.ret ?_
  repeat (first | refine RQ.block ?_ | refine RQ.then_ ?_)
  refine RQ.body (results1 (by rfl) (by rfl)) (fun w s => ?_)
  refine ⟨(), trivial, ?_, s⟩
  rw [aroundM, if_pos hc6]
 ·
  have hc6 := of_decide_eq_false hc6
  refine WK.skip ?_
  refine WK.seq ?_
  refine WK.region ?_
  refine Ly y_move ?_
  refine Ly y_move ?_
  refine Ly (y_rem (hr := by exact Int.tmod_eq_emod_of_nonneg (by omega))) ?_
  refine Ly y_assign ?_
  refine WL.done ?_
  refine WK.ret ?_
  repeat (first | refine RQ.block ?_ | refine RQ.then_ ?_)
  refine RQ.body (results1 (by rfl) (by rfl)) (fun w s => ?_)
  refine ⟨(), trivial, ?_, s⟩
  rw [aroundM, if_neg hc6]
set_option maxRecDepth 20000 in
set_option maxHeartbeats 1000000 in
theorem pick_spec (p : Bool) (ad : Option Addr) (len cap : Nat) (l : List Int) (i most : Int) (hm : 1 ≤ most) (hl : ∀ n ∈ l, -9223372036854775808 ≤ n ∧ n ≤ 9223372036854775807) :
  Triple Tryz.prog 32 #[.slice ad len cap, .int .i64 i, .int .i64 most] [sl p 3 1 ad len cap (l.map (Value.int .i64))] (Unit) (fun _ => True) (fun _ => .int .i64 (pickM l i most)) (fun _ => [sl p 3 1 ad len cap (l.map (Value.int .i64))]) := by
 refine Triple.of_body (args := [.slice ad len cap, .int .i64 i, .int .i64 most]) Tryz.func32 rfl Tryz.ntmps32 (by simp) (fun g F => ?_)
 dsimp only [numb, List.cons_append, List.nil_append]
 refine WK.know (fun w s => Sat.slLen (s.sel1 (A := sl p 3 1 ad len cap (l.map (Value.int .i64))) (by repeat (first | exact .here | apply Sel.there)))) (fun hkn => ?_)
 obtain ⟨n1, -⟩ := hkn
 simp only [Nat.mul_one, List.length_map] at n1
 refine WK.seq ?_
 refine WK.region ?_
 refine Ly y_assign ?_
 refine WL.done ?_
 refine WK.seq ?_
 refine WK.seq ?_
 refine WK.region ?_
 refine Ly y_move ?_
 refine Ly y_lss ?_
 refine Ly y_move ?_
 refine WL.split (d := 9) (by rfl) (fun hc9 => ?_) (fun hc9 => ?_)
 ·
  have hc9 := of_decide_eq_true hc9
  refine Lz ?_
  refine Lz ?_
  refine Lz ?_
  refine Lz ?_
  refine Ly y_pick_true ?_
  refine WL.done ?_
  refine Kcond (ht := fun _ => ?_) (hf := fun h => by cases h)
  refine WK.seq ?_
  refine WK.region ?_
  refine Ly y_assign ?_
  refine WL.done ?_
  refine WK.ret ?_
  repeat (first | refine RQ.block ?_ | refine RQ.then_ ?_)
  refine RQ.body (results1 (by rfl) (by rfl)) (fun w s => ?_)
  refine ⟨(), trivial, ?_, s.toCs (by repeat (first | exact SelL.nil | exact SelL.self | apply SelL.cons | exact Sel.here | apply Sel.there | apply SelL.skip))⟩
  rw [pickM, if_pos (by omega)]
 ·
  have hc9 := of_decide_eq_false hc9
  refine Lyg y_move ?_
  refine Lyg y_move ?_
  refine Lyg (y_len (hu := by exact Tryz.runUnderlying22)) ?_
  refine Lyg y_geq ?_
  refine Ly y_pick_false ?_
  refine WL.done ?_
  refine Kcond (ht := fun hc14 => ?_) (hf := fun hc14 => ?_)
  ·
   have hc14 := of_decide_eq_true hc14
   refine WK.seq ?_
   refine WK.region ?_
   refine Ly y_assign ?_
   refine WL.done ?_
   refine WK.ret ?_
   repeat (first | refine RQ.block ?_ | refine RQ.then_ ?_)
   refine RQ.body (results1 (by rfl) (by rfl)) (fun w s => ?_)
   refine ⟨(), trivial, ?_, s.toCs (by repeat (first | exact SelL.nil | exact SelL.self | apply SelL.cons | exact Sel.here | apply Sel.there | apply SelL.skip))⟩
   rw [pickM, if_pos (by omega)]
  ·
   have hc14 := of_decide_eq_false hc14
   obtain ⟨k, rfl⟩ : ∃ k : Nat, i = k := ⟨i.toNat, by omega⟩
   obtain ⟨n, hn⟩ : ∃ x, l[k]? = some x := ⟨_, List.getElem?_eq_getElem (by omega)⟩
   refine WK.skip ?_
   refine WK.seq ?_
   refine WK.region ?_
   refine Ly y_move ?_
   refine Ly y_move ?_
   refine Ly (y_indexAddrS (hu := by exact Tryz.runUnderlying22) (hz := by exact Tryz.sizeOf3) (j := k) (hi := by first | rfl | omega) (hj' := by omega) (hj := by omega) (hr := by exact Nat.mul_one _)) ?_
   refine Ly (y_loadS (ha := by exact Tryz.isAgg3) (hv := (by rw [List.getElem?_map, hn]; rfl))) ?_
   refine Ly y_move ?_
   refine Le (e_call (by exact Tryz.call10) (t := around_spec n most (hl n (List.mem_of_getElem? hn)) hm)) ?_
   rintro _ -
   try dsimp only
   refine Ly y_assign ?_
   refine WL.done ?_
   refine WK.ret ?_
   repeat (first | refine RQ.block ?_ | refine RQ.then_ ?_)
   refine RQ.body (results1 (by rfl) (by rfl)) (fun w s => ?_)
   refine ⟨(), trivial, ?_, s.toCs (by repeat (first | exact SelL.nil | exact SelL.self | apply SelL.cons | exact Sel.here | apply Sel.there | apply SelL.skip))⟩
   rw [pickM, if_neg (by omega)]
   rw [show ((k : Int)).toNat = k from rfl, hn]
   rfl
set_option maxRecDepth 20000 in
set_option maxHeartbeats 2000000 in
theorem refValid_spec (sh : Int) (p : Bool) (ad : Option Addr) (len cap : Nat) (l : List HomeM) (hlen : len ≤ 1000000) :
  Triple Tryz.prog 14 #[.int .i64 sh, .slice ad len cap] [sl p 83 2 ad len cap (homesC l)] (Unit) (fun _ => True) (fun _ => .bool (decide (VH sh l))) (fun _ => [sl p 83 2 ad len cap (homesC l)]) := by
 refine Triple.of_body (args := [.int .i64 sh, .slice ad len cap]) Tryz.func14 rfl Tryz.ntmps14 (by simp) (fun g F => ?_)
 dsimp only [numb, List.cons_append, List.nil_append]
 refine WK.know (fun w s => Sat.slLen (s.sel1 (A := sl p 83 2 ad len cap (homesC l)) (by repeat (first | exact .here | apply Sel.there)))) (fun hkn => ?_)
 obtain ⟨n1, -⟩ := hkn
 rw [homesC_len] at n1
 replace n1 : l.length = _ := Nat.eq_of_mul_eq_mul_right (by omega) n1
 refine WK.seq ?_
 refine WK.region ?_
 refine Ly y_assign ?_
 refine WL.done ?_
 refine WK.seq ?_
 refine WK.seq ?_
 refine WK.cut (ι := Bool) (fun b => b = true ↔ (sh < 1 ∨ 12 < sh ∨ l.length = 0)) (fun b => [(16, .bool b), (0, .int .i64 sh), (1, .slice ad len cap)]) (fun _ => sl p 83 2 ad len cap (homesC l) :: F) ?_ ?_
 ·
  intro b16 hb16
  refine Kcond (ht := fun hc16 => ?_) (hf := fun hc16 => ?_)
  ·
   have hc16 := hb16.1 hc16
   refine WK.seq ?_
   refine WK.region ?_
   refine Ly y_assign ?_
   refine WL.done ?_
   refine WK.ret ?_
   repeat (first | refine RQ.block ?_ | refine RQ.then_ ?_)
   refine RQ.body (results1 (by rfl) (by rfl)) (fun w s => ?_)
   refine ⟨(), trivial, ?_, s.toCs (by repeat (first | exact SelL.nil | exact SelL.self | apply SelL.cons | exact Sel.here | apply Sel.there | apply SelL.skip))⟩
   have hdec : ¬ VH sh l := by
     exact VH_no1 (by omega)
   rw [decide_eq_false hdec]
  ·
   have hc16 := mt hb16.2 (by rw [hc16]; simp)
   refine WK.skip ?_
   refine WK.seq ?_
   refine WK.seq ?_
   refine WK.region ?_
   refine Ly y_assign ?_
   refine WL.done ?_
   refine WK.block ?_
   refine Kloop (ι := Nat) (fun i => i ≤ len ∧ ∀ j, j < i → okAt sh l j) (fun i => [(0, .int .i64 sh), (1, .slice ad len cap), (5, .int .i64 (i : Int))]) (fun _ => sl p 83 2 ad len cap (homesC l) :: F) (fun i => len - i) (0) (⟨Nat.zero_le _, fun j h => absurd h (Nat.not_lt_zero _)⟩) (round := ?_)
   rintro i ⟨hi, hok⟩ N hN
   refine WK.seq ?_
   refine WK.seq ?_
   refine WK.region ?_
   refine Ly y_move ?_
   refine Ly y_move ?_
   refine Ly (y_len (hu := by exact Tryz.runUnderlying23)) ?_
   refine Ly y_lss ?_
   refine WL.done ?_
   refine Kcond (ht := fun hc20 => ?_) (hf := fun hc20 => ?_)
   ·
    have hc20 := of_decide_eq_true hc20
    obtain ⟨h, hx⟩ : ∃ x, l[i]? = some x := ⟨_, List.getElem?_eq_getElem (by omega)⟩
    refine WK.skip ?_
    refine WK.seq ?_
    refine WK.block ?_
    refine WK.seq ?_
    refine WK.seq ?_
    refine WK.cut (ι := Bool) (fun b => b = true ↔ (h.shard < 0 ∨ sh ≤ h.shard ∨ 1073741824 < h.frm)) (fun b => [(45, .bool b), (0, .int .i64 sh), (1, .slice ad len cap), (5, .int .i64 (i : Int))]) (fun _ => sl p 83 2 ad len cap (homesC l) :: F) ?_ ?_
    ·
     intro b45 hb45
     refine Kcond (ht := fun hc45 => ?_) (hf := fun hc45 => ?_)
     ·
      have hc45 := hb45.1 hc45
      refine WK.seq ?_
      refine WK.region ?_
      refine Ly y_assign ?_
      refine WL.done ?_
      refine WK.ret ?_
      repeat (first | refine RQ.block ?_ | refine RQ.then_ ?_)
      refine RQ.body (results1 (by rfl) (by rfl)) (fun w s => ?_)
      refine ⟨(), trivial, ?_, s.toCs (by repeat (first | exact SelL.nil | exact SelL.self | apply SelL.cons | exact Sel.here | apply Sel.there | apply SelL.skip))⟩
      have hdec : ¬ VH sh l := by
        exact fun v => by have := v.2.2.2 i h hx; omega
      rw [decide_eq_false hdec]
     ·
      have hc45 := mt hb45.2 (by rw [hc45]; simp)
      refine WK.skip ?_
      refine WK.seq ?_
      refine WK.cut (ι := Bool) (fun b => b = true ↔ ((i = 0 ∧ h.frm ≠ 1) ∨ ∃ q, 0 < i ∧ l[i - 1]? = some q ∧ (h.frm ≤ q.frm ∨ h.shard = q.shard))) (fun b => [(87, .bool b), (0, .int .i64 sh), (1, .slice ad len cap), (5, .int .i64 (i : Int))]) (fun _ => sl p 83 2 ad len cap (homesC l) :: F) ?_ ?_
      ·
       intro b87 hb87
       refine Kcond (ht := fun hc87 => ?_) (hf := fun hc87 => ?_)
       ·
        have hc87 := hb87.1 hc87
        refine WK.seq ?_
        refine WK.region ?_
        refine Ly y_assign ?_
        refine WL.done ?_
        refine WK.ret ?_
        repeat (first | refine RQ.block ?_ | refine RQ.then_ ?_)
        refine RQ.body (results1 (by rfl) (by rfl)) (fun w s => ?_)
        refine ⟨(), trivial, ?_, s.toCs (by repeat (first | exact SelL.nil | exact SelL.self | apply SelL.cons | exact Sel.here | apply Sel.there | apply SelL.skip))⟩
        have hdec : ¬ VH sh l := by
          rintro v
          have hv := v.2.2.2 i h hx
          rcases hc87 with hc | ⟨q, h1, h2, h3⟩
          · exact hc.2 (hv.2.2.2.1 hc.1)
          · have := hv.2.2.2.2 q h1 h2
            omega
        rw [decide_eq_false hdec]
       ·
        have hc87 := mt hb87.2 (by rw [hc87]; simp)
        refine WK.skip ?_
        refine WK.endBlock ?_
        refine WK.region ?_
        refine Ly y_move ?_
        refine Ly y_add ?_
        refine Ly y_assign ?_
        refine WL.done ?_
        refine Knext hN (i + 1) ⟨by omega, fun j hj => ?_⟩ (by omega)
        by_cases hji : j = i
        · subst hji
          intro x hxx
          cases hx.symm.trans hxx
          refine ⟨by omega, by omega, by omega, fun h0 => Classical.byContradiction fun h1 => hc87 (.inl ⟨h0, h1⟩), fun q h0 hq => Classical.byContradiction fun h1 => hc87 (.inr ⟨q, h0, hq, by omega⟩)⟩
        · exact hok j (by omega)
      ·
       intro JP87
       refine KdrQ (l := [(0, 0), (1, 0), (2, 0), (3, 0), (4, 0), (5, 0), (6, 0), (7, 0), (8, 0), (9, 0), (10, 0), (11, 0), (12, 0), (13, 0), (14, 0), (15, 0), (16, 0), (17, 0), (18, 0), (19, 0), (20, 0), (21, 0), (22, 0), (23, 0), (24, 0), (25, 0), (26, 0), (27, 0), (28, 0), (29, 0), (30, 0), (31, 0), (32, 0), (33, 0), (34, 0), (35, 0), (36, 0), (37, 0), (38, 0), (39, 0), (40, 0), (41, 0)]) (h := ?_)
       refine Oy (y := y_move) (h := ?_)
       refine Oy (y := y_eql) (h := ?_)
       refine Oy (y := y_move) (h := ?_)
       refine WO.split (d := 48) (by rfl) (fun hc48 => ?_) (fun hc48 => ?_)
       ·
        have hc48 := of_decide_eq_true hc48
        refine Oyg (y := y_move) (h := ?_)
        refine Oyg (y := y_move) (h := ?_)
        refine Oyg (y := y_indexAddrS (hu := by exact Tryz.runUnderlying23) (hz := by exact Tryz.sizeOf83) (j := i) (hi := by first | rfl | omega) (hj' := by omega) (hj := by omega)) (h := ?_)
        refine Oyg (y := y_fieldAddrS (hu := by exact Tryz.runUnderlying83) (hs := by exact Tryz.sizeOf3)) (h := ?_)
        refine Oyg (y := y_loadS (ha := by exact Tryz.isAgg3) (hv := by exact homesC_f hx (by rfl))) (h := ?_)
        refine Oyg (y := y_neq) (h := ?_)
        refine Oy (y := y_pick_true) (h := ?_)
        refine Oy (y := y_move) (h := ?_)
        refine WO.split (d := 56) (by rfl) (fun hc56 => ?_) (fun hc56 => ?_)
        ·
         have hc56 := of_decide_eq_true hc56
         refine Oz (h := ?_)
         refine Oz (h := ?_)
         refine Oz (h := ?_)
         refine Ozu (h := ?_)
         refine Ozu (h := ?_)
         refine Ozu (h := ?_)
         refine Ozu (h := ?_)
         refine Ozu (h := ?_)
         refine Ozu (h := ?_)
         refine Ozu (h := ?_)
         refine Ozu (h := ?_)
         refine Ozu (h := ?_)
         refine Ozu (h := ?_)
         refine Ozu (h := ?_)
         refine Ozu (h := ?_)
         refine Ozu (h := ?_)
         refine Ozu (h := ?_)
         refine Ozu (h := ?_)
         refine Ozu (h := ?_)
         refine Ozu (h := ?_)
         refine Ozu (h := ?_)
         refine Ozu (h := ?_)
         refine Ozu (h := ?_)
         refine Ozu (h := ?_)
         refine Ozu (h := ?_)
         refine Ozu (h := ?_)
         refine Ozu (h := ?_)
         refine Ozu (h := ?_)
         refine Ozu (h := ?_)
         refine Oz (h := ?_)
         refine Oy (y := y_pick_true) (h := ?_)
         refine WO.done ?_
         refine Kgoto JP87 true ?_
         exact ⟨fun _ => .inl ⟨by omega, by omega⟩, fun _ => rfl⟩
        ·
         have hc56 := of_decide_eq_false hc56
         refine Oyg (y := y_move) (h := ?_)
         refine Oyg (y := y_gtr) (h := ?_)
         refine Oyg (y := y_move) (h := ?_)
         refine WO.split (d := 59) (by rfl) (fun hc59 => ?_) (fun hc59 => ?_)
         ·
          have hc59 := of_decide_eq_true hc59
          obtain ⟨q, hq⟩ : ∃ x, l[i - 1]? = some x := ⟨_, List.getElem?_eq_getElem (by omega)⟩
          refine Oyg (y := y_move) (h := ?_)
          refine Oyg (y := y_move) (h := ?_)
          refine Oyg (y := y_indexAddrS (hu := by exact Tryz.runUnderlying23) (hz := by exact Tryz.sizeOf83) (j := i) (hi := by first | rfl | omega) (hj' := by omega) (hj := by omega)) (h := ?_)
          refine Oyg (y := y_fieldAddrS (hu := by exact Tryz.runUnderlying83) (hs := by exact Tryz.sizeOf3)) (h := ?_)
          refine Oyg (y := y_loadS (ha := by exact Tryz.isAgg3) (hv := by exact homesC_f hx (by rfl))) (h := ?_)
          refine Oyg (y := y_move) (h := ?_)
          refine Oyg (y := y_move) (h := ?_)
          refine Oyg (y := y_sub) (h := ?_)
          refine Oyg (y := y_indexAddrS (hu := by exact Tryz.runUnderlying23) (hz := by exact Tryz.sizeOf83) (j := i - 1) (hi := by first | rfl | omega) (hj' := by omega) (hj := by omega)) (h := ?_)
          refine Oyg (y := y_fieldAddrS (hu := by exact Tryz.runUnderlying83) (hs := by exact Tryz.sizeOf3)) (h := ?_)
          refine Oyg (y := y_loadS (ha := by exact Tryz.isAgg3) (hv := by exact homesC_f hq (by rfl))) (h := ?_)
          refine Oyg (y := y_leq) (h := ?_)
          refine Oyg (y := y_move) (h := ?_)
          refine WO.split (d := 72) (by rfl) (fun hc72 => ?_) (fun hc72 => ?_)
          ·
           have hc72 := of_decide_eq_true hc72
           refine Oz (h := ?_)
           refine Oz (h := ?_)
           refine Oz (h := ?_)
           refine Oz (h := ?_)
           refine Oz (h := ?_)
           refine Oz (h := ?_)
           refine Oz (h := ?_)
           refine Oz (h := ?_)
           refine Oz (h := ?_)
           refine Oz (h := ?_)
           refine Oz (h := ?_)
           refine Oz (h := ?_)
           refine Oyg (y := y_pick_true) (h := ?_)
           refine Oyg (y := y_pick_true) (h := ?_)
           refine Oy (y := y_pick_false) (h := ?_)
           refine WO.done ?_
           refine Kgoto JP87 true ?_
           exact ⟨fun _ => .inr ⟨q, by omega, hq, by omega⟩, fun _ => rfl⟩
          ·
           have hc72 := of_decide_eq_false hc72
           refine Oyg (y := y_move) (h := ?_)
           refine Oyg (y := y_move) (h := ?_)
           refine Oyg (y := y_indexAddrS (hu := by exact Tryz.runUnderlying23) (hz := by exact Tryz.sizeOf83) (j := i) (hi := by first | rfl | omega) (hj' := by omega) (hj := by omega)) (h := ?_)
           refine Oyg (y := y_fieldAddrS (hu := by exact Tryz.runUnderlying83) (hs := by exact Tryz.sizeOf3)) (h := ?_)
           refine Oyg (y := y_loadS (ha := by exact Tryz.isAgg3) (hv := by exact homesC_s hx (by rfl))) (h := ?_)
           refine Oyg (y := y_move) (h := ?_)
           refine Oyg (y := y_move) (h := ?_)
           refine Oyg (y := y_sub) (h := ?_)
           refine Oyg (y := y_indexAddrS (hu := by exact Tryz.runUnderlying23) (hz := by exact Tryz.sizeOf83) (j := i - 1) (hi := by first | rfl | omega) (hj' := by omega) (hj := by omega)) (h := ?_)
           refine Oyg (y := y_fieldAddrS (hu := by exact Tryz.runUnderlying83) (hs := by exact Tryz.sizeOf3)) (h := ?_)
           refine Oyg (y := y_loadS (ha := by exact Tryz.isAgg3) (hv := by exact homesC_s hq (by rfl))) (h := ?_)
           refine Oyg (y := y_eql) (h := ?_)
           refine Oyg (y := y_pick_false) (h := ?_)
           refine Oyg (y := y_pick_true) (h := ?_)
           refine Oy (y := y_pick_false) (h := ?_)
           refine WO.done ?_
           refine Kgoto JP87 _ ?_
           constructor
           · intro h
             exact .inr ⟨q, by omega, hq, .inr (of_decide_eq_true h)⟩
           · intro h
             refine decide_eq_true ?_
             rcases h with h | ⟨x, h1, h2, h3⟩
             · omega
             · cases hq.symm.trans h2
               omega
         ·
          have hc59 := of_decide_eq_false hc59
          refine Oz (h := ?_)
          refine Oz (h := ?_)
          refine Oz (h := ?_)
          refine Oz (h := ?_)
          refine Oz (h := ?_)
          refine Oz (h := ?_)
          refine Oz (h := ?_)
          refine Oz (h := ?_)
          refine Oz (h := ?_)
          refine Oz (h := ?_)
          refine Oz (h := ?_)
          refine Oz (h := ?_)
          refine Oz (h := ?_)
          refine Ozu (h := ?_)
          refine Ozu (h := ?_)
          refine Ozu (h := ?_)
          refine Ozu (h := ?_)
          refine Ozu (h := ?_)
          refine Ozu (h := ?_)
          refine Ozu (h := ?_)
          refine Ozu (h := ?_)
          refine Ozu (h := ?_)
          refine Ozu (h := ?_)
          refine Ozu (h := ?_)
          refine Ozu (h := ?_)
          refine Oz (h := ?_)
          refine Oyg (y := y_pick_false) (h := ?_)
          refine Oy (y := y_pick_false) (h := ?_)
          refine WO.done ?_
          refine Kgoto JP87 false ?_
          exact ⟨fun h => (by cases h), fun h => by
            rcases h with h | ⟨x, h1, h2, h3⟩
            · omega
            · omega⟩
       ·
        have hc48 := of_decide_eq_false hc48
        refine Oz (h := ?_)
        refine Oz (h := ?_)
        refine Oz (h := ?_)
        refine Oz (h := ?_)
        refine Oz (h := ?_)
        refine Oz (h := ?_)
        refine Oy (y := y_pick_false) (h := ?_)
        refine Oy (y := y_move) (h := ?_)
        refine Oyg (y := y_move) (h := ?_)
        refine Oyg (y := y_gtr) (h := ?_)
        refine Oyg (y := y_move) (h := ?_)
        refine WO.split (d := 59) (by rfl) (fun hc59 => ?_) (fun hc59 => ?_)
        ·
         have hc59 := of_decide_eq_true hc59
         obtain ⟨q, hq⟩ : ∃ x, l[i - 1]? = some x := ⟨_, List.getElem?_eq_getElem (by omega)⟩
         refine Oyg (y := y_move) (h := ?_)
         refine Oyg (y := y_move) (h := ?_)
         refine Oyg (y := y_indexAddrS (hu := by exact Tryz.runUnderlying23) (hz := by exact Tryz.sizeOf83) (j := i) (hi := by first | rfl | omega) (hj' := by omega) (hj := by omega)) (h := ?_)
         refine Oyg (y := y_fieldAddrS (hu := by exact Tryz.runUnderlying83) (hs := by exact Tryz.sizeOf3)) (h := ?_)
         refine Oyg (y := y_loadS (ha := by exact Tryz.isAgg3) (hv := by exact homesC_f hx (by rfl))) (h := ?_)
         refine Oyg (y := y_move) (h := ?_)
         refine Oyg (y := y_move) (h := ?_)
         refine Oyg (y := y_sub) (h := ?_)
         refine Oyg (y := y_indexAddrS (hu := by exact Tryz.runUnderlying23) (hz := by exact Tryz.sizeOf83) (j := i - 1) (hi := by first | rfl | omega) (hj' := by omega) (hj := by omega)) (h := ?_)
         refine Oyg (y := y_fieldAddrS (hu := by exact Tryz.runUnderlying83) (hs := by exact Tryz.sizeOf3)) (h := ?_)
         refine Oyg (y := y_loadS (ha := by exact Tryz.isAgg3) (hv := by exact homesC_f hq (by rfl))) (h := ?_)
         refine Oyg (y := y_leq) (h := ?_)
         refine Oyg (y := y_move) (h := ?_)
         refine WO.split (d := 72) (by rfl) (fun hc72 => ?_) (fun hc72 => ?_)
         ·
          have hc72 := of_decide_eq_true hc72
          refine Oz (h := ?_)
          refine Oz (h := ?_)
          refine Oz (h := ?_)
          refine Oz (h := ?_)
          refine Oz (h := ?_)
          refine Oz (h := ?_)
          refine Oz (h := ?_)
          refine Oz (h := ?_)
          refine Oz (h := ?_)
          refine Oz (h := ?_)
          refine Oz (h := ?_)
          refine Oz (h := ?_)
          refine Oyg (y := y_pick_true) (h := ?_)
          refine Oyg (y := y_pick_true) (h := ?_)
          refine Oy (y := y_pick_false) (h := ?_)
          refine WO.done ?_
          refine Kgoto JP87 true ?_
          exact ⟨fun _ => .inr ⟨q, by omega, hq, by omega⟩, fun _ => rfl⟩
         ·
          have hc72 := of_decide_eq_false hc72
          refine Oyg (y := y_move) (h := ?_)
          refine Oyg (y := y_move) (h := ?_)
          refine Oyg (y := y_indexAddrS (hu := by exact Tryz.runUnderlying23) (hz := by exact Tryz.sizeOf83) (j := i) (hi := by first | rfl | omega) (hj' := by omega) (hj := by omega)) (h := ?_)
          refine Oyg (y := y_fieldAddrS (hu := by exact Tryz.runUnderlying83) (hs := by exact Tryz.sizeOf3)) (h := ?_)
          refine Oyg (y := y_loadS (ha := by exact Tryz.isAgg3) (hv := by exact homesC_s hx (by rfl))) (h := ?_)
          refine Oyg (y := y_move) (h := ?_)
          refine Oyg (y := y_move) (h := ?_)
          refine Oyg (y := y_sub) (h := ?_)
          refine Oyg (y := y_indexAddrS (hu := by exact Tryz.runUnderlying23) (hz := by exact Tryz.sizeOf83) (j := i - 1) (hi := by first | rfl | omega) (hj' := by omega) (hj := by omega)) (h := ?_)
          refine Oyg (y := y_fieldAddrS (hu := by exact Tryz.runUnderlying83) (hs := by exact Tryz.sizeOf3)) (h := ?_)
          refine Oyg (y := y_loadS (ha := by exact Tryz.isAgg3) (hv := by exact homesC_s hq (by rfl))) (h := ?_)
          refine Oyg (y := y_eql) (h := ?_)
          refine Oyg (y := y_pick_false) (h := ?_)
          refine Oyg (y := y_pick_true) (h := ?_)
          refine Oy (y := y_pick_false) (h := ?_)
          refine WO.done ?_
          refine Kgoto JP87 _ ?_
          constructor
          · intro h
            exact .inr ⟨q, by omega, hq, .inr (of_decide_eq_true h)⟩
          · intro h
            refine decide_eq_true ?_
            rcases h with h | ⟨x, h1, h2, h3⟩
            · omega
            · cases hq.symm.trans h2
              omega
        ·
         have hc59 := of_decide_eq_false hc59
         refine Oz (h := ?_)
         refine Oz (h := ?_)
         refine Oz (h := ?_)
         refine Oz (h := ?_)
         refine Oz (h := ?_)
         refine Oz (h := ?_)
         refine Oz (h := ?_)
         refine Oz (h := ?_)
         refine Oz (h := ?_)
         refine Oz (h := ?_)
         refine Oz (h := ?_)
         refine Oz (h := ?_)
         refine Oz (h := ?_)
         refine Ozu (h := ?_)
         refine Ozu (h := ?_)
         refine Ozu (h := ?_)
         refine Ozu (h := ?_)
         refine Ozu (h := ?_)
         refine Ozu (h := ?_)
         refine Ozu (h := ?_)
         refine Ozu (h := ?_)
         refine Ozu (h := ?_)
         refine Ozu (h := ?_)
         refine Ozu (h := ?_)
         refine Ozu (h := ?_)
         refine Oz (h := ?_)
         refine Oyg (y := y_pick_false) (h := ?_)
         refine Oy (y := y_pick_false) (h := ?_)
         refine WO.done ?_
         refine Kgoto JP87 false ?_
         exact ⟨fun h => (by cases h), fun h => by
           rcases h with h | ⟨x, h1, h2, h3⟩
           · omega
           · omega⟩
    ·
     intro JP45
     refine WK.region ?_
     refine Ly y_move ?_
     refine Ly y_move ?_
     refine Ly (y_indexAddrS (hu := by exact Tryz.runUnderlying23) (hz := by exact Tryz.sizeOf83) (j := i) (hi := by first | rfl | omega) (hj' := by omega) (hj := by omega)) ?_
     refine Ly (y_fieldAddrS (hu := by exact Tryz.runUnderlying83) (hs := by exact Tryz.sizeOf3)) ?_
     refine Ly (y_loadS (ha := by exact Tryz.isAgg3) (hv := by exact homesC_s hx (by rfl))) ?_
     refine Ly y_lss ?_
     refine Ly y_move ?_
     refine WL.split (d := 29) (by rfl) (fun hc29 => ?_) (fun hc29 => ?_)
     ·
      have hc29 := of_decide_eq_true hc29
      refine Lz ?_
      refine Lz ?_
      refine Lz ?_
      refine Lz ?_
      refine Lz ?_
      refine Lz ?_
      refine Lz ?_
      refine Ly y_pick_true ?_
      refine Ly y_move ?_
      refine Lz ?_
      refine Lz ?_
      refine Lz ?_
      refine Lz ?_
      refine Lz ?_
      refine Lz ?_
      refine Ly y_pick_true ?_
      refine WL.done ?_
      refine Kgoto JP45 true ?_
      first | (simp only [true_iff]; omega) | (simp only [Bool.false_eq_true, false_iff]; omega) | (simp only [decide_eq_true_eq]; omega) | (simp; omega) | (simp at *; omega)
     ·
      have hc29 := of_decide_eq_false hc29
      refine Lyg y_move ?_
      refine Lyg y_move ?_
      refine Lyg (y_indexAddrS (hu := by exact Tryz.runUnderlying23) (hz := by exact Tryz.sizeOf83) (j := i) (hi := by first | rfl | omega) (hj' := by omega) (hj := by omega)) ?_
      refine Lyg (y_fieldAddrS (hu := by exact Tryz.runUnderlying83) (hs := by exact Tryz.sizeOf3)) ?_
      refine Lyg (y_loadS (ha := by exact Tryz.isAgg3) (hv := by exact homesC_s hx (by rfl))) ?_
      refine Lyg y_move ?_
      refine Lyg y_geq ?_
      refine Ly y_pick_false ?_
      refine Ly y_move ?_
      refine WL.split (d := 38) (by rfl) (fun hc38 => ?_) (fun hc38 => ?_)
      ·
       have hc38 := of_decide_eq_true hc38
       refine Lz ?_
       refine Lz ?_
       refine Lz ?_
       refine Lz ?_
       refine Lz ?_
       refine Lz ?_
       refine Ly y_pick_true ?_
       refine WL.done ?_
       refine Kgoto JP45 true ?_
       first | (simp only [true_iff]; omega) | (simp only [Bool.false_eq_true, false_iff]; omega) | (simp only [decide_eq_true_eq]; omega) | (simp; omega) | (simp at *; omega)
      ·
       have hc38 := of_decide_eq_false hc38
       refine Lyg y_move ?_
       refine Lyg y_move ?_
       refine Lyg (y_indexAddrS (hu := by exact Tryz.runUnderlying23) (hz := by exact Tryz.sizeOf83) (j := i) (hi := by first | rfl | omega) (hj' := by omega) (hj := by omega)) ?_
       refine Lyg (y_fieldAddrS (hu := by exact Tryz.runUnderlying83) (hs := by exact Tryz.sizeOf3)) ?_
       refine Lyg (y_loadS (ha := by exact Tryz.isAgg3) (hv := by exact homesC_f hx (by rfl))) ?_
       refine Lyg y_gtr ?_
       refine Ly y_pick_false ?_
       refine WL.done ?_
       refine Kgoto JP45 _ ?_
       first | (simp only [true_iff]; omega) | (simp only [Bool.false_eq_true, false_iff]; omega) | (simp only [decide_eq_true_eq]; omega) | (simp; omega) | (simp at *; omega)
   ·
    have hc20 := of_decide_eq_false hc20
    refine WK.exit ?_
    repeat (first | refine XQ.then_ ?_ | refine XQ.block (by rfl) ?_)
    refine XQ.here ?_
    refine WK.seq ?_
    refine WK.region ?_
    refine Ly y_assign ?_
    refine WL.done ?_
    refine WK.ret ?_
    repeat (first | refine RQ.block ?_ | refine RQ.then_ ?_)
    refine RQ.body (results1 (by rfl) (by rfl)) (fun w s => ?_)
    refine ⟨(), trivial, ?_, s.toCs (by repeat (first | exact SelL.nil | exact SelL.self | apply SelL.cons | exact Sel.here | apply Sel.there | apply SelL.skip))⟩
    have hdec : VH sh l := by
      refine ⟨by omega, by omega, fun e => by have e2 := congrArg List.length e; rw [List.length_nil] at e2; omega, fun j => ?_⟩
      by_cases hj : j < i
      · exact hok j hj
      · intro x hx
        rw [List.getElem?_eq_none (by omega)] at hx
        cases hx
    rw [decide_eq_true hdec]
 ·
  intro JP16
  refine WK.region ?_
  refine Ly y_move ?_
  refine Ly y_lss ?_
  refine Ly y_move ?_
  refine WL.split (d := 8) (by rfl) (fun hc8 => ?_) (fun hc8 => ?_)
  ·
   have hc8 := of_decide_eq_true hc8
   refine Lz ?_
   refine Lz ?_
   refine Ly y_pick_true ?_
   refine Ly y_move ?_
   refine Lz ?_
   refine Lz ?_
   refine Lz ?_
   refine Ly y_pick_true ?_
   refine WL.done ?_
   refine Kgoto JP16 true ?_
   first | (simp only [true_iff]; omega) | (simp only [Bool.false_eq_true, false_iff]; omega) | (simp only [decide_eq_true_eq]; omega) | (simp; omega) | (simp at *; omega)
  ·
   have hc8 := of_decide_eq_false hc8
   refine Lyg y_move ?_
   refine Lyg y_gtr ?_
   refine Ly y_pick_false ?_
   refine Ly y_move ?_
   refine WL.split (d := 12) (by rfl) (fun hc12 => ?_) (fun hc12 => ?_)
   ·
    have hc12 := of_decide_eq_true hc12
    refine Lz ?_
    refine Lz ?_
    refine Lz ?_
    refine Ly y_pick_true ?_
    refine WL.done ?_
    refine Kgoto JP16 true ?_
    first | (simp only [true_iff]; omega) | (simp only [Bool.false_eq_true, false_iff]; omega) | (simp only [decide_eq_true_eq]; omega) | (simp; omega) | (simp at *; omega)
   ·
    have hc12 := of_decide_eq_false hc12
    refine Lyg y_move ?_
    refine Lyg (y_len (hu := by exact Tryz.runUnderlying23)) ?_
    refine Lyg y_eql ?_
    refine Ly y_pick_false ?_
    refine WL.done ?_
    refine Kgoto JP16 _ ?_
    first | (simp only [true_iff]; omega) | (simp only [Bool.false_eq_true, false_iff]; omega) | (simp only [decide_eq_true_eq]; omega) | (simp; omega) | (simp at *; omega)
set_option maxRecDepth 20000 in
set_option maxHeartbeats 1000000 in
theorem refFind_spec (p : Bool) (ad : Option Addr) (len cap : Nat) (l : List HomeM) (hlen : len ≤ 1000000) (a : Int) :
  Triple Tryz.prog 16 #[.slice ad len cap, .int .i64 a] [sl p 83 2 ad len cap (homesC l)] (Unit) (fun _ => True) (fun _ => .int .i64 (findM l a)) (fun _ => [sl p 83 2 ad len cap (homesC l)]) := by
 refine Triple.of_body (args := [.slice ad len cap, .int .i64 a]) Tryz.func16 rfl Tryz.ntmps16 (by simp) (fun g F => ?_)
 dsimp only [numb, List.cons_append, List.nil_append]
 refine WK.know (fun w s => Sat.slLen (s.sel1 (A := sl p 83 2 ad len cap (homesC l)) (by repeat (first | exact .here | apply Sel.there)))) (fun hkn => ?_)
 obtain ⟨n1, -⟩ := hkn
 rw [homesC_len] at n1
 replace n1 : l.length = _ := Nat.eq_of_mul_eq_mul_right (by omega) n1
 refine WK.seq ?_
 refine WK.region ?_
 refine Ly y_assign ?_
 refine WL.done ?_
 refine WK.seq ?_
 refine WK.region ?_
 refine Ly y_assign ?_
 refine WL.done ?_
 refine WK.seq ?_
 refine WK.seq ?_
 refine WK.region ?_
 refine Ly y_assign ?_
 refine WL.done ?_
 refine WK.block ?_
 refine Kloop (ι := Nat) (fun i => i ≤ len) (fun i => [(0, .slice ad len cap), (1, .int .i64 a), (5, .int .i64 (findM (l.take i) a)), (6, .int .i64 (i : Int))]) (fun _ => sl p 83 2 ad len cap (homesC l) :: F) (fun i => len - i) (0) (Nat.zero_le _) (round := ?_)
 rintro i hi N hN
 refine WK.seq ?_
 refine WK.seq ?_
 refine WK.region ?_
 refine Ly y_move ?_
 refine Ly y_move ?_
 refine Ly (y_len (hu := by exact Tryz.runUnderlying23)) ?_
 refine Ly y_lss ?_
 refine WL.done ?_
 refine Kcond (ht := fun hc10 => ?_) (hf := fun hc10 => ?_)
 ·
  have hc10 := of_decide_eq_true hc10
  obtain ⟨h, hx⟩ : ∃ x, l[i]? = some x := ⟨_, List.getElem?_eq_getElem (by omega)⟩
  refine WK.skip ?_
  refine WK.seq ?_
  refine WK.block ?_
  refine WK.seq ?_
  refine WK.region ?_
  refine Ly y_move ?_
  refine Ly y_move ?_
  refine Ly (y_indexAddrS (hu := by exact Tryz.runUnderlying23) (hz := by exact Tryz.sizeOf83) (j := i) (hi := by first | rfl | omega) (hj' := by omega) (hj := by omega)) ?_
  refine Ly (y_fieldAddrS (hu := by exact Tryz.runUnderlying83) (hs := by exact Tryz.sizeOf3)) ?_
  refine Ly (y_loadS (ha := by exact Tryz.isAgg3) (hv := by exact homesC_f hx (by rfl))) ?_
  refine Ly y_move ?_
  refine Ly y_leq ?_
  refine WL.done ?_
  refine Kcond (ht := fun hc19 => ?_) (hf := fun hc19 => ?_)
  ·
   have hc19 := of_decide_eq_true hc19
   refine WK.region ?_
   refine Ly y_move ?_
   refine Ly y_move ?_
   refine Ly (y_indexAddrS (hu := by exact Tryz.runUnderlying23) (hz := by exact Tryz.sizeOf83) (j := i) (hi := by first | rfl | omega) (hj' := by omega) (hj := by omega)) ?_
   refine Ly (y_fieldAddrS (hu := by exact Tryz.runUnderlying83) (hs := by exact Tryz.sizeOf3)) ?_
   refine Ly (y_loadS (ha := by exact Tryz.isAgg3) (hv := by exact homesC_s hx (by rfl))) ?_
   refine Ly y_assign ?_
   refine WL.done ?_
   refine WK.endBlock ?_
   refine WK.region ?_
   refine Ly y_move ?_
   refine Ly y_add ?_
   refine Ly y_assign ?_
   refine WL.done ?_
   refine Knext hN (i + 1) (by omega) (by omega) (hK := (by refine KK.cons rfl (KK.cons rfl (KK.cons ?_ (KK.cons rfl KK.nil))); rw [findM_more hx, findF, if_pos hc19]; rfl))
  ·
   have hc19 := of_decide_eq_false hc19
   refine WK.skip ?_
   refine WK.endBlock ?_
   refine WK.region ?_
   refine Ly y_move ?_
   refine Ly y_add ?_
   refine Ly y_assign ?_
   refine WL.done ?_
   refine Knext hN (i + 1) (by omega) (by omega) (hK := (by refine KK.cons rfl (KK.cons rfl (KK.cons ?_ (KK.cons rfl KK.nil))); rw [findM_more hx, findF, if_neg hc19]; rfl))
 ·
  have hc10 := of_decide_eq_false hc10
  refine WK.exit ?_
  repeat (first | refine XQ.then_ ?_ | refine XQ.block (by rfl) ?_)
  refine XQ.here ?_
  refine WK.seq ?_
  refine WK.region ?_
  refine Ly y_move ?_
  refine Ly y_assign ?_
  refine WL.done ?_
  refine WK.ret ?_
  repeat (first | refine RQ.block ?_ | refine RQ.then_ ?_)
  refine RQ.body (results1 (by rfl) (by rfl)) (fun w s => ?_)
  obtain rfl : i = len := by omega
  rw [List.take_of_length_le (by omega)] at *
  exact ⟨(), trivial, rfl, s.toCs (by repeat (first | exact SelL.nil | exact SelL.self | apply SelL.cons | exact Sel.here | apply Sel.there | apply SelL.skip))⟩
set_option maxRecDepth 20000 in
set_option maxHeartbeats 1000000 in
theorem account_spec (a : Int) :
  Triple Tryz.prog 34 #[.int .i64 a] [] (Unit) (fun _ => True) (fun _ => .bool (decide (1 ≤ a ∧ a ≤ 1073741824))) (fun _ => []) := by
 refine Triple.of_body (args := [.int .i64 a]) Tryz.func34 rfl Tryz.ntmps34 (by simp) (fun g F => ?_)
 dsimp only [numb, List.cons_append, List.nil_append]
 refine WK.seq ?_
 refine WK.region ?_
 refine Ly y_assign ?_
 refine WL.done ?_
 refine WK.seq ?_
 refine WK.region ?_
 refine Ly y_move ?_
 refine Ly y_geq ?_
 refine Ly y_move ?_
 refine WL.split (d := 5) (by rfl) (fun hc5 => ?_) (fun hc5 => ?_)
 ·
  have hc5 := of_decide_eq_true hc5
  refine Lyg y_move ?_
  refine Lyg y_leq ?_
  refine Ly y_pick_true ?_
  refine Ly y_assign ?_
  refine WL.done ?_
  refine WK.ret ?_
  repeat (first | refine RQ.block ?_ | refine RQ.then_ ?_)
  refine RQ.body (results1 (by rfl) (by rfl)) (fun w s => ?_)
  refine ⟨(), trivial, ?_, s⟩
  simp only [hc5, true_and]
 ·
  have hc5 := of_decide_eq_false hc5
  refine Lz ?_
  refine Lz ?_
  refine Ly y_pick_false ?_
  refine Ly y_assign ?_
  refine WL.done ?_
  refine WK.ret ?_
  repeat (first | refine RQ.block ?_ | refine RQ.then_ ?_)
  refine RQ.body (results1 (by rfl) (by rfl)) (fun w s => ?_)
  refine ⟨(), trivial, ?_, s⟩
  rw [decide_eq_false (fun h => hc5 h.1)]
set_option maxRecDepth 20000 in
set_option maxHeartbeats 2000000 in
theorem valid_spec (sh : Int) (p : Bool) (ad : Option Addr) (len cap : Nat) (l : List HomeM) (hlen : len ≤ 1000000) :
  Triple Tryz.prog 12 #[.int .i64 sh, .slice ad len cap] [sl p 84 2 ad len cap (homesC l)] (Unit) (fun _ => True) (fun _ => .int .i64 (if VH sh l then 0 else 1)) (fun _ => [sl p 84 2 ad len cap (homesC l)]) := by
 refine Triple.of_body (args := [.int .i64 sh, .slice ad len cap]) Tryz.func12 rfl Tryz.ntmps12 (by simp) (fun g F => ?_)
 dsimp only [numb, List.cons_append, List.nil_append]
 refine WK.know (fun w s => Sat.slLen (s.sel1 (A := sl p 84 2 ad len cap (homesC l)) (by repeat (first | exact .here | apply Sel.there)))) (fun hkn => ?_)
 obtain ⟨n1, -⟩ := hkn
 rw [homesC_len] at n1
 replace n1 : l.length = _ := Nat.eq_of_mul_eq_mul_right (by omega) n1
 refine WK.seq ?_
 refine WK.region ?_
 refine Ly y_assign ?_
 refine WL.done ?_
 refine WK.seq ?_
 refine WK.seq ?_
 refine WK.region ?_
 refine Ly y_move ?_
 refine Ly y_lss ?_
 refine Ly y_move ?_
 refine WL.split (d := 9) (by rfl) (fun hc9 => ?_) (fun hc9 => ?_)
 ·
  have hc9 := of_decide_eq_true hc9
  refine Lz ?_
  refine Lz ?_
  refine Ly y_pick_true ?_
  refine Ly y_move ?_
  refine Lz ?_
  refine Lz ?_
  refine Lz ?_
  refine Ly y_pick_true ?_
  refine Ly y_move ?_
  refine Lz ?_
  refine Lz ?_
  refine Lz ?_
  refine Lz ?_
  refine Lz ?_
  refine Ly y_pick_true ?_
  refine WL.done ?_
  refine Kcond (ht := fun _ => ?_) (hf := fun h => by cases h)
  refine WK.seq ?_
  refine WK.region ?_
  refine Ly y_assign ?_
  refine WL.done ?_
  refine WK.ret ?_
  repeat (first | refine RQ.block ?_ | refine RQ.then_ ?_)
  refine RQ.body (results1 (by rfl) (by rfl)) (fun w s => ?_)
  refine ⟨(), trivial, ?_, s.toCs (by repeat (first | exact SelL.nil | exact SelL.self | apply SelL.cons | exact Sel.here | apply Sel.there | apply SelL.skip))⟩
  rw [if_neg (VH_no1 (by omega))]
 ·
  have hc9 := of_decide_eq_false hc9
  refine Lyg y_move ?_
  refine Lyg y_gtr ?_
  refine Ly y_pick_false ?_
  refine Ly y_move ?_
  refine WL.split (d := 13) (by rfl) (fun hc13 => ?_) (fun hc13 => ?_)
  ·
   have hc13 := of_decide_eq_true hc13
   refine Lz ?_
   refine Lz ?_
   refine Lz ?_
   refine Ly y_pick_true ?_
   refine Ly y_move ?_
   refine Lz ?_
   refine Lz ?_
   refine Lz ?_
   refine Lz ?_
   refine Lz ?_
   refine Ly y_pick_true ?_
   refine WL.done ?_
   refine Kcond (ht := fun _ => ?_) (hf := fun h => by cases h)
   refine WK.seq ?_
   refine WK.region ?_
   refine Ly y_assign ?_
   refine WL.done ?_
   refine WK.ret ?_
   repeat (first | refine RQ.block ?_ | refine RQ.then_ ?_)
   refine RQ.body (results1 (by rfl) (by rfl)) (fun w s => ?_)
   refine ⟨(), trivial, ?_, s.toCs (by repeat (first | exact SelL.nil | exact SelL.self | apply SelL.cons | exact Sel.here | apply Sel.there | apply SelL.skip))⟩
   rw [if_neg (VH_no1 (by omega))]
  ·
   have hc13 := of_decide_eq_false hc13
   refine Lyg y_move ?_
   refine Lyg (y_len (hu := by exact Tryz.runUnderlying30)) ?_
   refine Lyg y_eql ?_
   refine Ly y_pick_false ?_
   refine Ly y_move ?_
   refine WL.split (d := 18) (by rfl) (fun hc18 => ?_) (fun hc18 => ?_)
   ·
    have hc18 := of_decide_eq_true hc18
    refine Lz ?_
    refine Lz ?_
    refine Lz ?_
    refine Lz ?_
    refine Lz ?_
    refine Ly y_pick_true ?_
    refine WL.done ?_
    refine Kcond (ht := fun _ => ?_) (hf := fun h => by cases h)
    refine WK.seq ?_
    refine WK.region ?_
    refine Ly y_assign ?_
    refine WL.done ?_
    refine WK.ret ?_
    repeat (first | refine RQ.block ?_ | refine RQ.then_ ?_)
    refine RQ.body (results1 (by rfl) (by rfl)) (fun w s => ?_)
    refine ⟨(), trivial, ?_, s.toCs (by repeat (first | exact SelL.nil | exact SelL.self | apply SelL.cons | exact Sel.here | apply Sel.there | apply SelL.skip))⟩
    rw [if_neg (VH_no1 (by omega))]
   ·
    have hc18 := of_decide_eq_false hc18
    obtain ⟨q0, hq0⟩ : ∃ x, l[0]? = some x := ⟨_, List.getElem?_eq_getElem (by omega)⟩
    refine Lyg y_move ?_
    refine Lyg (y_indexAddrS (hu := by exact Tryz.runUnderlying30) (hz := by exact Tryz.sizeOf84) (j := 0) (hi := by first | rfl | omega) (hj' := by omega) (hj := by omega)) ?_
    refine Lyg (y_fieldAddrS (hu := by exact Tryz.runUnderlying84) (hs := by exact Tryz.sizeOf3)) ?_
    refine Lyg (y_loadS (ha := by exact Tryz.isAgg3) (hv := by exact homesC_f hq0 (by rfl))) ?_
    refine Lyg y_neq ?_
    refine Ly y_pick_false ?_
    refine WL.done ?_
    refine Kcond (ht := fun hc24 => ?_) (hf := fun hc24 => ?_)
    ·
     have hc24 := of_decide_eq_true hc24
     refine WK.seq ?_
     refine WK.region ?_
     refine Ly y_assign ?_
     refine WL.done ?_
     refine WK.ret ?_
     repeat (first | refine RQ.block ?_ | refine RQ.then_ ?_)
     refine RQ.body (results1 (by rfl) (by rfl)) (fun w s => ?_)
     refine ⟨(), trivial, ?_, s.toCs (by repeat (first | exact SelL.nil | exact SelL.self | apply SelL.cons | exact Sel.here | apply Sel.there | apply SelL.skip))⟩
     rw [if_neg (fun v => by have := (v.2.2.2 0 q0 hq0).2.2.2.1 rfl; omega)]
    ·
     have hc24 := of_decide_eq_false hc24
     refine WK.skip ?_
     refine WK.seq ?_
     refine WK.seq ?_
     refine WK.region ?_
     refine Ly y_move ?_
     refine Ly (y_len (hu := by exact Tryz.runUnderlying30)) ?_
     refine Ly y_move ?_
     refine WL.done ?_
     refine WK.block ?_
     refine Kloop (ι := Nat) (fun i => i ≤ len ∧ ∀ j, j < i → okAt sh l j) (fun i => [(0, .int .i64 sh), (1, .slice ad len cap), (25, .slice ad len cap), (26, .int .i64 (len : Int)), (27, .int .i64 (i : Int))]) (fun _ => sl p 84 2 ad len cap (homesC l) :: F) (fun i => len - i) (0) (⟨Nat.zero_le _, fun j h => absurd h (Nat.not_lt_zero _)⟩) (round := ?_)
     rintro i ⟨hi, hok⟩ N hN
     refine WK.seq ?_
     refine WK.region ?_
     refine Ly y_lss ?_
     refine WL.done ?_
     refine WK.seq ?_
     refine Kcond (ht := fun hc28 => ?_) (hf := fun hc28 => ?_)
     ·
      have hc28 := of_decide_eq_true hc28
      obtain ⟨h, hx⟩ : ∃ x, l[i]? = some x := ⟨_, List.getElem?_eq_getElem (by omega)⟩
      refine WK.skip ?_
      refine WK.seq ?_
      refine WK.block ?_
      refine WK.seq ?_
      refine WK.region ?_
      refine Ly y_move ?_
      refine Ly (y_indexAddrS (hu := by exact Tryz.runUnderlying30) (hz := by exact Tryz.sizeOf84) (j := i) (hi := by first | rfl | omega) (hj' := by omega) (hj := by omega)) ?_
      refine Ly (y_loadSA (ha := by exact Tryz.isAgg84) (hm := by exact Tryz.sizeOf84) (hv := by exact homesC_cells hx)) ?_
      refine Le (e_alloc (by exact Tryz.zeroValue84)) ?_
      rintro b6 -
      try dsimp only
      refine Ly y_assign ?_
      refine Le0 (e_store (hk := by exact Tryz.sizeOf84) (h1 := by rfl)) ?_
      rintro _ -
      try dsimp only
      refine WL.done ?_
      refine WK.seq ?_
      refine WK.cut (ι := Bool) (fun b => b = true ↔ (¬ (1 ≤ h.frm ∧ h.frm ≤ 1073741824) ∨ h.shard < 0 ∨ sh ≤ h.shard ∨ ∃ q, 0 < i ∧ l[i - 1]? = some q ∧ (h.frm ≤ q.frm ∨ h.shard = q.shard))) (fun b => [(72, .bool b), (0, .int .i64 sh), (1, .slice ad len cap), (25, .slice ad len cap), (26, .int .i64 (len : Int)), (27, .int .i64 (i : Int))]) (fun _ => sl p 84 2 ad len cap (homesC l) :: F) ?_ ?_
      ·
       intro b72 hb72
       refine Kcond (ht := fun hc72 => ?_) (hf := fun hc72 => ?_)
       ·
        have hc72 := hb72.1 hc72
        refine WK.seq ?_
        refine WK.region ?_
        refine Ly y_assign ?_
        refine WL.done ?_
        refine WK.ret ?_
        repeat (first | refine RQ.block ?_ | refine RQ.then_ ?_)
        refine RQ.body (results1 (by rfl) (by rfl)) (fun w s => ?_)
        refine ⟨(), trivial, ?_, s.toCs (by repeat (first | exact SelL.nil | exact SelL.self | apply SelL.cons | exact Sel.here | apply Sel.there | apply SelL.skip))⟩
        rw [if_neg]
        rintro v
        have hv := v.2.2.2 i h hx
        have hf := VH_frm v.2.2.2 hx
        rcases hc72 with hc | hc | hc | ⟨q, h1, h2, h3⟩
        · omega
        · omega
        · omega
        · have := hv.2.2.2.2 q h1 h2
          omega
       ·
        have hc72 := mt hb72.2 (by rw [hc72]; simp)
        refine WK.skip ?_
        refine WK.endBlock ?_
        refine WK.region ?_
        refine Ly y_add ?_
        refine Ly y_move ?_
        refine WL.done ?_
        refine Knext hN (i + 1) ⟨by omega, fun j hj => ?_⟩ (by omega)
        by_cases hji : j = i
        · subst hji
          intro x hxx
          cases hx.symm.trans hxx
          refine ⟨Classical.byContradiction fun h1 => hc72 (.inr (.inl (by omega))), Classical.byContradiction fun h1 => hc72 (.inr (.inr (.inl (by omega)))), Classical.byContradiction fun h1 => hc72 (.inl (by omega)), fun h0 => ?_, fun q h0 hq => Classical.byContradiction fun h1 => hc72 (.inr (.inr (.inr ⟨q, h0, hq, by omega⟩)))⟩
          subst h0
          cases hq0.symm.trans hx
          omega
        · exact hok j (by omega)
      ·
       intro JP72
       refine Kdr (l := [(0, 0), (1, 0), (2, 1), (3, 0), (4, 0), (5, 0), (6, 0), (7, 0), (8, 0), (9, 0), (10, 0), (11, 0), (12, 0), (13, 0), (14, 0), (15, 0), (16, 0), (17, 0), (18, 0), (19, 0), (20, 0), (21, 0), (22, 0), (23, 0), (24, 0), (25, 0), (26, 0), (27, 0), (28, 0), (29, 0), (30, 0), (31, 0), (32, 0), (33, 0), (34, 0), (35, 0), (36, 0), (37, 0), (38, 0), (39, 0), (40, 0)]) (Cs := [row true b6 84 [.int .i64 h.frm, .int .i64 h.shard], sl p 84 2 ad len cap (homesC l)]) (h := ?_)
       refine Oy (y := y_fieldAddr (hu := by exact Tryz.runUnderlying84) (hs := by exact Tryz.sizeOf3)) (h := ?_)
       refine Oy (y := y_load (ha := by exact Tryz.isAgg3)) (h := ?_)
       refine Oe (e := e_call (by exact Tryz.call34) (t := account_spec h.frm)) (h := ?_)
       rintro _ -
       try dsimp only
       refine Oy (y := y_not) (h := ?_)
       refine Oy (y := y_move) (h := ?_)
       refine WO.split (d := 36) (by rfl) (fun hc36 => ?_) (fun hc36 => ?_)
       ·
        refine Oz (h := ?_)
        refine Oz (h := ?_)
        refine Oz (h := ?_)
        refine Oy (y := y_pick_true) (h := ?_)
        refine Oy (y := y_move) (h := ?_)
        refine Oz (h := ?_)
        refine Oz (h := ?_)
        refine Oz (h := ?_)
        refine Oz (h := ?_)
        refine Oy (y := y_pick_true) (h := ?_)
        refine Oy (y := y_move) (h := ?_)
        refine Oz (h := ?_)
        refine Oz (h := ?_)
        refine Oz (h := ?_)
        refine Ozu (h := ?_)
        refine Ozu (h := ?_)
        refine Ozu (h := ?_)
        refine Ozu (h := ?_)
        refine Ozu (h := ?_)
        refine Ozu (h := ?_)
        refine Ozu (h := ?_)
        refine Ozu (h := ?_)
        refine Ozu (h := ?_)
        refine Ozu (h := ?_)
        refine Ozu (h := ?_)
        refine Ozu (h := ?_)
        refine Ozu (h := ?_)
        refine Ozu (h := ?_)
        refine Ozu (h := ?_)
        refine Ozu (h := ?_)
        refine Ozu (h := ?_)
        refine Ozu (h := ?_)
        refine Ozu (h := ?_)
        refine Ozu (h := ?_)
        refine Oz (h := ?_)
        refine Oy (y := y_pick_true) (h := ?_)
        refine WO.done ?_
        refine Kgoto JP72 true ?_
        exact ⟨fun _ => .inl (by simp at hc36; omega), fun _ => rfl⟩
       ·
        refine Oyg (y := y_fieldAddr (hu := by exact Tryz.runUnderlying84) (hs := by exact Tryz.sizeOf3)) (h := ?_)
        refine Oyg (y := y_load (ha := by exact Tryz.isAgg3)) (h := ?_)
        refine Oyg (y := y_lss) (h := ?_)
        refine Oy (y := y_pick_false) (h := ?_)
        refine Oy (y := y_move) (h := ?_)
        refine WO.split (d := 41) (by rfl) (fun hc41 => ?_) (fun hc41 => ?_)
        ·
         have hc41 := of_decide_eq_true hc41
         refine Oz (h := ?_)
         refine Oz (h := ?_)
         refine Oz (h := ?_)
         refine Oz (h := ?_)
         refine Oy (y := y_pick_true) (h := ?_)
         refine Oy (y := y_move) (h := ?_)
         refine Oz (h := ?_)
         refine Oz (h := ?_)
         refine Oz (h := ?_)
         refine Ozu (h := ?_)
         refine Ozu (h := ?_)
         refine Ozu (h := ?_)
         refine Ozu (h := ?_)
         refine Ozu (h := ?_)
         refine Ozu (h := ?_)
         refine Ozu (h := ?_)
         refine Ozu (h := ?_)
         refine Ozu (h := ?_)
         refine Ozu (h := ?_)
         refine Ozu (h := ?_)
         refine Ozu (h := ?_)
         refine Ozu (h := ?_)
         refine Ozu (h := ?_)
         refine Ozu (h := ?_)
         refine Ozu (h := ?_)
         refine Ozu (h := ?_)
         refine Ozu (h := ?_)
         refine Ozu (h := ?_)
         refine Ozu (h := ?_)
         refine Oz (h := ?_)
         refine Oy (y := y_pick_true) (h := ?_)
         refine WO.done ?_
         refine Kgoto JP72 true ?_
         exact ⟨fun _ => .inr (.inl (by omega)), fun _ => rfl⟩
        ·
         have hc41 := of_decide_eq_false hc41
         refine Oyg (y := y_fieldAddr (hu := by exact Tryz.runUnderlying84) (hs := by exact Tryz.sizeOf3)) (h := ?_)
         refine Oyg (y := y_load (ha := by exact Tryz.isAgg3)) (h := ?_)
         refine Oyg (y := y_move) (h := ?_)
         refine Oyg (y := y_geq) (h := ?_)
         refine Oy (y := y_pick_false) (h := ?_)
         refine Oy (y := y_move) (h := ?_)
         refine WO.split (d := 47) (by rfl) (fun hc47 => ?_) (fun hc47 => ?_)
         ·
          have hc47 := of_decide_eq_true hc47
          refine Oz (h := ?_)
          refine Oz (h := ?_)
          refine Oz (h := ?_)
          refine Ozu (h := ?_)
          refine Ozu (h := ?_)
          refine Ozu (h := ?_)
          refine Ozu (h := ?_)
          refine Ozu (h := ?_)
          refine Ozu (h := ?_)
          refine Ozu (h := ?_)
          refine Ozu (h := ?_)
          refine Ozu (h := ?_)
          refine Ozu (h := ?_)
          refine Ozu (h := ?_)
          refine Ozu (h := ?_)
          refine Ozu (h := ?_)
          refine Ozu (h := ?_)
          refine Ozu (h := ?_)
          refine Ozu (h := ?_)
          refine Ozu (h := ?_)
          refine Ozu (h := ?_)
          refine Ozu (h := ?_)
          refine Ozu (h := ?_)
          refine Oz (h := ?_)
          refine Oy (y := y_pick_true) (h := ?_)
          refine WO.done ?_
          refine Kgoto JP72 true ?_
          exact ⟨fun _ => .inr (.inr (.inl (by omega))), fun _ => rfl⟩
         ·
          have hc47 := of_decide_eq_false hc47
          refine Oyg (y := y_move) (h := ?_)
          refine Oyg (y := y_gtr) (h := ?_)
          refine Oyg (y := y_move) (h := ?_)
          refine WO.split (d := 50) (by rfl) (fun hc50 => ?_) (fun hc50 => ?_)
          ·
           have hc50 := of_decide_eq_true hc50
           obtain ⟨q, hq⟩ : ∃ x, l[i - 1]? = some x := ⟨_, List.getElem?_eq_getElem (by omega)⟩
           refine Oyg (y := y_fieldAddr (hu := by exact Tryz.runUnderlying84) (hs := by exact Tryz.sizeOf3)) (h := ?_)
           refine Oyg (y := y_load (ha := by exact Tryz.isAgg3)) (h := ?_)
           refine Oyg (y := y_move) (h := ?_)
           refine Oyg (y := y_move) (h := ?_)
           refine Oyg (y := y_sub) (h := ?_)
           refine Oyg (y := y_indexAddrS (hu := by exact Tryz.runUnderlying30) (hz := by exact Tryz.sizeOf84) (j := i - 1) (hi := by first | rfl | omega) (hj' := by omega) (hj := by omega)) (h := ?_)
           refine Oyg (y := y_fieldAddrS (hu := by exact Tryz.runUnderlying84) (hs := by exact Tryz.sizeOf3)) (h := ?_)
           refine Oyg (y := y_loadS (ha := by exact Tryz.isAgg3) (hv := by exact homesC_f hq (by rfl))) (h := ?_)
           refine Oyg (y := y_leq) (h := ?_)
           refine Oyg (y := y_move) (h := ?_)
           refine WO.split (d := 60) (by rfl) (fun hc60 => ?_) (fun hc60 => ?_)
           ·
            have hc60 := of_decide_eq_true hc60
            refine Oz (h := ?_)
            refine Oz (h := ?_)
            refine Oz (h := ?_)
            refine Oz (h := ?_)
            refine Oz (h := ?_)
            refine Oz (h := ?_)
            refine Oz (h := ?_)
            refine Oz (h := ?_)
            refine Oz (h := ?_)
            refine Oyg (y := y_pick_true) (h := ?_)
            refine Oyg (y := y_pick_true) (h := ?_)
            refine Oy (y := y_pick_false) (h := ?_)
            refine WO.done ?_
            refine Kgoto JP72 true ?_
            exact ⟨fun _ => .inr (.inr (.inr ⟨q, by omega, hq, by omega⟩)), fun _ => rfl⟩
           ·
            have hc60 := of_decide_eq_false hc60
            refine Oyg (y := y_fieldAddr (hu := by exact Tryz.runUnderlying84) (hs := by exact Tryz.sizeOf3)) (h := ?_)
            refine Oyg (y := y_load (ha := by exact Tryz.isAgg3)) (h := ?_)
            refine Oyg (y := y_move) (h := ?_)
            refine Oyg (y := y_move) (h := ?_)
            refine Oyg (y := y_sub) (h := ?_)
            refine Oyg (y := y_indexAddrS (hu := by exact Tryz.runUnderlying30) (hz := by exact Tryz.sizeOf84) (j := i - 1) (hi := by first | rfl | omega) (hj' := by omega) (hj := by omega)) (h := ?_)
            refine Oyg (y := y_fieldAddrS (hu := by exact Tryz.runUnderlying84) (hs := by exact Tryz.sizeOf3)) (h := ?_)
            refine Oyg (y := y_loadS (ha := by exact Tryz.isAgg3) (hv := by exact homesC_s hq (by rfl))) (h := ?_)
            refine Oyg (y := y_eql) (h := ?_)
            refine Oyg (y := y_pick_false) (h := ?_)
            refine Oyg (y := y_pick_true) (h := ?_)
            refine Oy (y := y_pick_false) (h := ?_)
            refine WO.done ?_
            refine Kgoto JP72 _ ?_
            simp at hc36
            constructor
            · intro h
              exact .inr (.inr (.inr ⟨q, by omega, hq, .inr (of_decide_eq_true h)⟩))
            · intro h
              refine decide_eq_true ?_
              rcases h with h | h | h | ⟨x, h1, h2, h3⟩
              · omega
              · omega
              · omega
              · cases hq.symm.trans h2
                omega
          ·
           have hc50 := of_decide_eq_false hc50
           refine Oz (h := ?_)
           refine Oz (h := ?_)
           refine Oz (h := ?_)
           refine Oz (h := ?_)
           refine Oz (h := ?_)
           refine Oz (h := ?_)
           refine Oz (h := ?_)
           refine Oz (h := ?_)
           refine Oz (h := ?_)
           refine Oz (h := ?_)
           refine Ozu (h := ?_)
           refine Ozu (h := ?_)
           refine Ozu (h := ?_)
           refine Ozu (h := ?_)
           refine Ozu (h := ?_)
           refine Ozu (h := ?_)
           refine Ozu (h := ?_)
           refine Ozu (h := ?_)
           refine Ozu (h := ?_)
           refine Oz (h := ?_)
           refine Oyg (y := y_pick_false) (h := ?_)
           refine Oy (y := y_pick_false) (h := ?_)
           refine WO.done ?_
           refine Kgoto JP72 false ?_
           simp at hc36
           exact ⟨fun h => (by cases h), fun h => by
             rcases h with h | h | h | ⟨x, h1, h2, h3⟩ <;> omega⟩
     ·
      have hc28 := of_decide_eq_false hc28
      refine WK.exit ?_
      repeat (first | refine XQ.then_ ?_ | refine XQ.block (by rfl) ?_)
      refine XQ.here ?_
      refine WK.seq ?_
      refine WK.region ?_
      refine Ly y_assign ?_
      refine WL.done ?_
      refine WK.ret ?_
      repeat (first | refine RQ.block ?_ | refine RQ.then_ ?_)
      refine RQ.body (results1 (by rfl) (by rfl)) (fun w s => ?_)
      refine ⟨(), trivial, ?_, s.toCs (by repeat (first | exact SelL.nil | exact SelL.self | apply SelL.cons | exact Sel.here | apply Sel.there | apply SelL.skip))⟩
      rw [if_pos]
      refine ⟨by omega, by omega, fun e => by have e2 := congrArg List.length e; rw [List.length_nil] at e2; omega, fun j => ?_⟩
      by_cases hj : j < i
      · exact hok j hj
      · intro x hx
        rw [List.getElem?_eq_none (by omega)] at hx
        cases hx
set_option maxRecDepth 20000 in
set_option maxHeartbeats 1000000 in
theorem possible_spec (p : Bool) (ad : Option Addr) (len cap : Nat) (l : List HomeM) (hlen : len ≤ 1000000) :
  Triple Tryz.prog 35 #[.slice ad len cap] [sl p 84 2 ad len cap (homesC l)] (Unit) (fun _ => True) (fun _ => .bool (decide (VH 12 l))) (fun _ => [sl p 84 2 ad len cap (homesC l)]) := by
 refine Triple.of_body (args := [.slice ad len cap]) Tryz.func35 rfl Tryz.ntmps35 (by simp) (fun g F => ?_)
 dsimp only [numb, List.cons_append, List.nil_append]
 refine WK.seq ?_
 refine WK.region ?_
 refine Ly y_assign ?_
 refine WL.done ?_
 refine WK.seq ?_
 refine WK.region ?_
 refine Ly y_move ?_
 refine Le (e_call (by exact Tryz.call12) (t := valid_spec 12 p ad len cap l hlen)) ?_
 rintro _ -
 try dsimp only
 refine Ly y_eql ?_
 refine Ly y_assign ?_
 refine WL.done ?_
 refine WK.ret ?_
 repeat (first | refine RQ.block ?_ | refine RQ.then_ ?_)
 refine RQ.body (results1 (by rfl) (by rfl)) (fun w s => ?_)
 refine ⟨(), trivial, ?_, s.toCs (by repeat (first | exact SelL.nil | exact SelL.self | apply SelL.cons | exact Sel.here | apply Sel.there | apply SelL.skip))⟩
 by_cases hv : VH 12 l <;> simp [hv]
set_option maxRecDepth 20000 in
set_option maxHeartbeats 1000000 in
theorem ranges_spec (ad : Option Addr) (len cap : Nat) :
  Triple Tryz.prog 36 #[.slice ad len cap] [] (Nat) (fun _ => True) (fun q => .func (.func 61) #[] #[.pointer (some ⟨q, 0, none⟩)]) (fun q => [row true q 30 [.slice ad len cap]]) := by
 refine Triple.of_body (args := [.slice ad len cap]) Tryz.func36 rfl Tryz.ntmps36 (by simp) (fun g F => ?_)
 dsimp only [numb, List.cons_append, List.nil_append]
 refine WK.seq ?_
 refine WK.region ?_
 refine Le e_box ?_
 rintro b1 -
 try dsimp only
 refine Ly y_assign ?_
 refine WL.done ?_
 refine WK.seq ?_
 refine WK.region ?_
 refine Ly y_mkFunc ?_
 refine Ly y_assign ?_
 refine WL.done ?_
 refine WK.ret ?_
 repeat (first | refine RQ.block ?_ | refine RQ.then_ ?_)
 refine RQ.body (results1 (by rfl) (by rfl)) (fun w s => ?_)
 exact ⟨b1, trivial, rfl, s⟩
set_option maxRecDepth 20000 in
set_option maxHeartbeats 2000000 in
theorem find_spec (p : Bool) (ad : Option Addr) (len cap : Nat) (l : List HomeM) (hlen : len ≤ 1000000) (a : Int) :
  Triple Tryz.prog 15 #[.slice ad len cap, .int .i64 a] [sl p 84 2 ad len cap (homesC l)] (Unit) (fun _ => True) (fun _ => if VH 12 l ∧ 1 ≤ a ∧ a ≤ 1073741824 then .tuple #[.int .i64 (findM l a), .int .i64 0] else .tuple #[.int .i64 0, .int .i64 1]) (fun _ => [sl p 84 2 ad len cap (homesC l)]) := by
 refine Triple.of_body (args := [.slice ad len cap, .int .i64 a]) Tryz.func15 rfl Tryz.ntmps15 (by simp) (fun g F => ?_)
 dsimp only [numb, List.cons_append, List.nil_append]
 refine WK.seq ?_
 refine WK.region ?_
 refine Le e_box ?_
 rintro b3 -
 try dsimp only
 refine Le (e_alloc (by exact Tryz.zeroValue3)) ?_
 rintro b4 -
 try dsimp only
 refine Le (e_alloc (by exact Tryz.zeroValue28)) ?_
 rintro b5 -
 try dsimp only
 refine WL.done ?_
 refine WK.seq ?_
 refine WK.seq ?_
 refine WK.region ?_
 refine Ly y_move ?_
 refine Le (e_call (by exact Tryz.call35) (t := possible_spec p ad len cap l hlen)) ?_
 rintro _ -
 try dsimp only
 refine Ly y_not ?_
 refine Ly y_move ?_
 refine WL.split (d := 11) (by rfl) (fun hc11 => ?_) (fun hc11 => ?_)
 ·
  refine Lz ?_
  refine Lz ?_
  refine Lz ?_
  refine Ly y_pick_true ?_
  refine WL.done ?_
  refine Kcond (ht := fun _ => ?_) (hf := fun h => by cases h)
  refine WK.seq ?_
  refine WK.region ?_
  refine Le0 (e_store (hk := by exact Tryz.sizeOf3) (h1 := by rfl)) ?_
  rintro _ -
  try dsimp only
  refine Le0 (e_store (hk := by exact Tryz.sizeOf28) (h1 := by rfl)) ?_
  rintro _ -
  try dsimp only
  refine WL.done ?_
  refine WK.ret ?_
  repeat (first | refine RQ.block ?_ | refine RQ.then_ ?_)
  refine RQ.body (resultsV2 (by rfl) (.cell (by rfl) (by exact Tryz.isAgg3) (by repeat (first | exact .here | apply Sel.there)) (by rfl)) (.cell (by rfl) (by exact Tryz.isAgg28) (by repeat (first | exact .here | apply Sel.there)) (by rfl))) (fun w s => ?_)
  refine ⟨(), trivial, ?_, s.toCs (by repeat (first | exact SelL.nil | exact SelL.self | apply SelL.cons | exact Sel.here | apply Sel.there | apply SelL.skip))⟩
  rw [if_neg]
  rintro ⟨h1, h2⟩
  simp at hc11
  exact hc11 h1
 ·
  have hv := (by simpa using hc11)
  have hb : ∀ h ∈ l, 1 ≤ h.frm ∧ h.frm ≤ 1073741824 := fun x hx => by
    obtain ⟨j, hj⟩ := List.getElem?_of_mem hx
    exact ⟨VH_frm hv.2.2.2 hj, (hv.2.2.2 j x hj).2.2.1⟩
  refine Lyg (y_load (ha := by exact Tryz.isAgg3)) ?_
  refine Leg (e_call (by exact Tryz.call34) (t := account_spec a)) ?_
  rintro _ -
  try dsimp only
  refine Lyg y_not ?_
  refine Ly y_pick_false ?_
  refine WL.done ?_
  refine Kcond (ht := fun hc15 => ?_) (hf := fun hc15 => ?_)
  ·
   refine WK.seq ?_
   refine WK.region ?_
   refine Le0 (e_store (hk := by exact Tryz.sizeOf3) (h1 := by rfl)) ?_
   rintro _ -
   try dsimp only
   refine Le0 (e_store (hk := by exact Tryz.sizeOf28) (h1 := by rfl)) ?_
   rintro _ -
   try dsimp only
   refine WL.done ?_
   refine WK.ret ?_
   repeat (first | refine RQ.block ?_ | refine RQ.then_ ?_)
   refine RQ.body (resultsV2 (by rfl) (.cell (by rfl) (by exact Tryz.isAgg3) (by repeat (first | exact .here | apply Sel.there)) (by rfl)) (.cell (by rfl) (by exact Tryz.isAgg28) (by repeat (first | exact .here | apply Sel.there)) (by rfl))) (fun w s => ?_)
   refine ⟨(), trivial, ?_, s.toCs (by repeat (first | exact SelL.nil | exact SelL.self | apply SelL.cons | exact Sel.here | apply Sel.there | apply SelL.skip))⟩
   rw [if_neg]
   rintro ⟨h1, h2⟩
   simp at hc15
   omega
  ·
   have ha : 1 ≤ a ∧ a ≤ 1073741824 := by simpa using hc15
   refine WK.skip ?_
   refine WK.seq ?_
   refine WK.seq ?_
   refine WK.region ?_
   refine Ly y_move ?_
   refine Le (e_call (by exact Tryz.call36) (t := ranges_spec ad len cap)) ?_
   rintro q17 -
   try dsimp only
   refine WL.done ?_
   refine WK.block ?_
   refine WK.marks0 ?_
   refine WK.rangeFunc rfl (ps := [18, 19]) (by rfl) (by exact Tryz.call61) (ranges_iter q17 p ad len cap l hlen hb) (fun _ => rfl) (by decide) (fun pre (s : Int) => s = 0 ∧ ∀ x ∈ pre, ¬ (x.1 ≤ a ∧ a ≤ x.2.1)) (fun s => [row true b3 3 [.int .i64 a], row true b4 3 [.int .i64 s], row true b5 28 [.int .i64 0]]) (fun c _ s => c = .ret ∧ s = findM l a) (fun _ s => [row true b3 3 [.int .i64 a], row true b4 3 [.int .i64 s], row true b5 28 [.int .i64 0]]) (0) (⟨rfl, by simp⟩) (by repeat (first | exact .here | apply Sel.there)) (by repeat (first | exact SelL.nil | exact SelL.self | apply SelL.cons | exact Sel.here | apply Sel.there | apply SelL.skip)) (by repeat (first | exact SelL.nil | exact SelL.self | apply SelL.cons | exact Sel.here | apply Sel.there | apply SelL.skip)) ?_ ?_ ?_
   ·
    intro r0 hds0 L0a L0b F0 pre0 x0 bb0 hS0 hI0 N0 QF0 Q0 hb0 hnext0 hret0 hexit0
    obtain ⟨rfl, hno⟩ := hI0
    obtain ⟨ys, hys⟩ := hS0
    try dsimp only [bindK, List.cons_append, List.nil_append]
    refine WK.seq ?_
    refine WK.region ?_
    refine Ly y_assign ?_
    refine WL.done ?_
    refine WK.region ?_
    refine Le (e_alloc (by exact Tryz.zeroValue38)) ?_
    rintro b7 -
    try dsimp only
    refine Le0 (e_store (hk := by exact Tryz.sizeOf38) (h1 := by rfl)) ?_
    rintro _ -
    try dsimp only
    refine WL.done ?_
    refine WK.begin hb0 (by repeat (first | exact .here | apply Sel.there)) ?_
    refine WK.block ?_
    refine WK.seq ?_
    refine WK.region ?_
    refine Ly y_move ?_
    refine Ly (y_load (ha := by exact Tryz.isAgg3)) ?_
    refine Ly y_leq ?_
    refine Ly y_move ?_
    refine WL.split (d := 23) (by rfl) (fun hc23 => ?_) (fun hc23 => ?_)
    ·
     have hc23 := of_decide_eq_true hc23
     refine Lyg (y_load (ha := by exact Tryz.isAgg3)) ?_
     refine Lyg (y_indexAddrA (hu := by exact Tryz.runUnderlying38) (hs := by exact Tryz.sizeOf3) (k := 0) (hi := by first | rfl | omega) (hl := by first | decide | omega)) ?_
     refine Lyg (y_load (ha := by exact Tryz.isAgg3)) ?_
     refine Lyg y_leq ?_
     refine Ly y_pick_true ?_
     refine WL.done ?_
     refine Kcond (ht := fun hc28 => ?_) (hf := fun hc28 => ?_)
     ·
      have hc28 := of_decide_eq_true hc28
      refine WK.seq ?_
      refine WK.region ?_
      refine Ly (y_indexAddrA (hu := by exact Tryz.runUnderlying38) (hs := by exact Tryz.sizeOf3) (k := 1) (hi := by first | rfl | omega) (hl := by first | decide | omega)) ?_
      refine Ly (y_load (ha := by exact Tryz.isAgg3)) ?_
      refine Le0 (e_store (hk := by exact Tryz.sizeOf3) (h1 := by rfl)) ?_
      rintro _ -
      try dsimp only
      refine Le0 (e_store (hk := by exact Tryz.sizeOf28) (h1 := by rfl)) ?_
      rintro _ -
      try dsimp only
      refine WL.done ?_
      refine WK.ret ?_
      repeat (first | refine RQ.block ?_ | refine RQ.then_ ?_)
      refine RQ.roundOut hret0 (x0.2.2) ⟨rfl, ?_⟩ (by repeat (first | exact SelL.nil | exact SelL.self | apply SelL.cons | exact Sel.here | apply Sel.there | apply SelL.skip))
      exact (ranges_hit ha.2 (VH_inc hv) (by rw [← hys]; simp) (by omega) (by omega)).symm
     ·
      have hc28 := of_decide_eq_false hc28
      refine WK.skip ?_
      refine WK.endBlock ?_
      refine WK.roundEnd hnext0 0 ⟨rfl, fun y hy => ?_⟩ (by repeat (first | exact SelL.nil | exact SelL.self | apply SelL.cons | exact Sel.here | apply Sel.there | apply SelL.skip))
      rcases List.mem_append.1 hy with hy | hy
      · exact hno y hy
      · rw [List.mem_singleton.1 hy]
        omega
    ·
     have hc23 := of_decide_eq_false hc23
     refine Lz ?_
     refine Lz ?_
     refine Lz ?_
     refine Lz ?_
     refine Ly y_pick_false ?_
     refine WL.done ?_
     refine Kcond (ht := fun h => by cases h) (hf := fun _ => ?_)
     refine WK.skip ?_
     refine WK.endBlock ?_
     refine WK.roundEnd hnext0 0 ⟨rfl, fun y hy => ?_⟩ (by repeat (first | exact SelL.nil | exact SelL.self | apply SelL.cons | exact Sel.here | apply Sel.there | apply SelL.skip))
     rcases List.mem_append.1 hy with hy | hy
     · exact hno y hy
     · rw [List.mem_singleton.1 hy]
       omega
   ·
    intro r0 hro0 xs0 bb0 hS0 hI0
    obtain ⟨rfl, hno⟩ := hI0
    subst hS0
    obtain ⟨x, hx, hx2⟩ := VH_some hv ha.1 ha.2
    exact (hno x hx hx2).elim
   ·
    rintro r0 hro0 cc0 pre0 bb0 hj0 hIx0
    obtain ⟨rfl, rfl⟩ := hIx0
    try dsimp only [List.cons_append, List.nil_append]
    refine WK.ret ?_
    repeat (first | refine RQ.block ?_ | refine RQ.then_ ?_)
    refine RQ.bodyM (by repeat (first | exact .here | apply Sel.there)) (resultsV2 (by rfl) (.cell (by rfl) (by exact Tryz.isAgg3) (by repeat (first | exact .here | apply Sel.there)) (by rfl)) (.cell (by rfl) (by exact Tryz.isAgg28) (by repeat (first | exact .here | apply Sel.there)) (by rfl))) (fun w s => ?_)
    refine ⟨(), trivial, ?_, s.toCs (by repeat (first | exact SelL.nil | exact SelL.self | apply SelL.cons | exact Sel.here | apply Sel.there | apply SelL.skip))⟩
    rw [if_pos ⟨hv, ha⟩]
set_option maxRecDepth 20000 in
set_option maxHeartbeats 1000000 in
theorem shards1_spec (x : Int) :
  Triple Tryz.prog 63 #[.int .i64 x] [pack []] (Unit) (fun _ => True) (fun _ => .bool (decide (x < 0 ∨ 12 ≤ x))) (fun _ => [pack []]) := by
 refine Triple.of_body (args := [.int .i64 x]) Tryz.func63 rfl Tryz.ntmps63 (by simp) (fun g F => ?_)
 dsimp only [numb, List.cons_append, List.nil_append]
 refine WK.seq ?_
 refine WK.region ?_
 refine Ly y_assign ?_
 refine WL.done ?_
 refine WK.seq ?_
 refine WK.region ?_
 refine Ly y_move ?_
 refine Ly y_lss ?_
 refine Ly y_move ?_
 refine WL.split (d := 5) (by rfl) (fun hc5 => ?_) (fun hc5 => ?_)
 ·
  have hc5 := of_decide_eq_true hc5
  refine Lz ?_
  refine Lz ?_
  refine Ly y_pick_true ?_
  refine Ly y_assign ?_
  refine WL.done ?_
  refine WK.ret ?_
  repeat (first | refine RQ.block ?_ | refine RQ.then_ ?_)
  refine RQ.body (results1 (by rfl) (by rfl)) (fun w s => ?_)
  refine ⟨(), trivial, ?_, s⟩
  rw [decide_eq_true (.inl hc5)]
 ·
  have hc5 := of_decide_eq_false hc5
  refine Lyg y_move ?_
  refine Lyg y_geq ?_
  refine Ly y_pick_false ?_
  refine Ly y_assign ?_
  refine WL.done ?_
  refine WK.ret ?_
  repeat (first | refine RQ.block ?_ | refine RQ.then_ ?_)
  refine RQ.body (results1 (by rfl) (by rfl)) (fun w s => ?_)
  refine ⟨(), trivial, ?_, s⟩
  simp [hc5]
theorem shards1_pred : PredF Tryz.prog 63 [] (pack []) (Value.int .i64) (fun _ => True) (fun x => decide (x < 0 ∨ 12 ≤ x)) := ⟨Tryz.call63, fun x _ => shards1_spec x⟩
set_option maxRecDepth 20000 in
set_option maxHeartbeats 1000000 in
theorem indexFunc_int (f : FuncId) (caps : List Value) (X : HProp) (pr : Int → Bool) (hp : PredF Tryz.prog f caps X (Value.int .i64) (fun _ => True) pr) (p : Bool) (ad : Option Addr) (len cap : Nat) (l : List Int) (hlen : len ≤ 1000000) :
  Triple Tryz.prog 65 #[.slice ad len cap, .func (.func f) #[] caps.toArray] [sl p 3 1 ad len cap (l.map (Value.int .i64)), X] (Unit) (fun _ => True) (fun _ => .int .i64 (idxM pr l)) (fun _ => [sl p 3 1 ad len cap (l.map (Value.int .i64)), X]) := by
 refine Triple.of_body (args := [.slice ad len cap, .func (.func f) #[] caps.toArray]) Tryz.func65 rfl Tryz.ntmps65 (by simp) (fun g F => ?_)
 dsimp only [numb, List.cons_append, List.nil_append]
 refine WK.know (fun w s => Sat.slLen (s.sel1 (A := sl p 3 1 ad len cap (l.map (Value.int .i64))) (by repeat (first | exact .here | apply Sel.there)))) (fun hkn => ?_)
 obtain ⟨n1, -⟩ := hkn
 simp only [Nat.mul_one, List.length_map] at n1
 refine WK.seq ?_
 refine WK.region ?_
 refine Ly y_assign ?_
 refine WL.done ?_
 refine WK.seq ?_
 refine WK.seq ?_
 refine WK.region ?_
 refine Ly y_move ?_
 refine Ly (y_len (hu := by exact Tryz.runUnderlying22)) ?_
 refine Ly y_move ?_
 refine WL.done ?_
 refine WK.block ?_
 refine Kloop (ι := Nat) (fun i => i ≤ len ∧ ∀ (j : Nat) (y : Int), j < i → l[j]? = some y → pr y = false) (fun i => [(0, .slice ad len cap), (1, .func (.func f) #[] caps.toArray), (6, .slice ad len cap), (7, .int .i64 (len : Int)), (8, .int .i64 (i : Int))]) (fun _ => sl p 3 1 ad len cap (l.map (Value.int .i64)) :: X :: F) (fun i => len - i) (0) (⟨Nat.zero_le _, fun j y h => absurd h (Nat.not_lt_zero _)⟩) (round := ?_)
 rintro i ⟨hi, hno⟩ N hN
 refine WK.seq ?_
 refine WK.region ?_
 refine Ly y_lss ?_
 refine WL.done ?_
 refine WK.seq ?_
 refine Kcond (ht := fun hc9 => ?_) (hf := fun hc9 => ?_)
 ·
  have hc9 := of_decide_eq_true hc9
  obtain ⟨x, hx⟩ : ∃ x, l[i]? = some x := ⟨_, List.getElem?_eq_getElem (by omega)⟩
  refine WK.skip ?_
  refine WK.seq ?_
  refine WK.block ?_
  refine WK.seq ?_
  refine WK.region ?_
  refine Ly y_move ?_
  refine Ly y_assign ?_
  refine WL.done ?_
  refine WK.seq ?_
  refine WK.region ?_
  refine Ly y_move ?_
  refine Ly y_move ?_
  refine Ly y_move ?_
  refine Ly (y_indexAddrS (hu := by exact Tryz.runUnderlying22) (hz := by exact Tryz.sizeOf3) (j := i) (hi := by first | rfl | omega) (hj' := by omega) (hj := by omega) (hr := by exact Nat.mul_one _)) ?_
  refine Ly (y_loadS (ha := by exact Tryz.isAgg3) (hv := (by rw [List.getElem?_map, hx]; rfl))) ?_
  refine Le (e_callV (f := f) (hc := hp.call) (he := by rfl) (t := hp.spec x trivial)) ?_
  rintro _ -
  try dsimp only
  refine WL.done ?_
  refine Kcond (ht := fun hc16 => ?_) (hf := fun hc16 => ?_)
  ·
   refine WK.seq ?_
   refine WK.region ?_
   refine Ly y_move ?_
   refine Ly y_assign ?_
   refine WL.done ?_
   refine WK.ret ?_
   repeat (first | refine RQ.block ?_ | refine RQ.then_ ?_)
   refine RQ.body (results1 (by rfl) (by rfl)) (fun w s => ?_)
   refine ⟨(), trivial, ?_, s.toCs (by repeat (first | exact SelL.nil | exact SelL.self | apply SelL.cons | exact Sel.here | apply Sel.there | apply SelL.skip))⟩
   rw [idxM_hit hx hc16 hno]
  ·
   refine WK.skip ?_
   refine WK.endBlock ?_
   refine WK.region ?_
   refine Ly y_add ?_
   refine Ly y_move ?_
   refine WL.done ?_
   refine Knext hN (i + 1) ⟨by omega, fun j y hj hy => ?_⟩ (by omega)
   by_cases hji : j = i
   · subst hji
     cases hx.symm.trans hy
     simpa using hc16
   · exact hno j y (by omega) hy
 ·
  have hc9 := of_decide_eq_false hc9
  refine WK.exit ?_
  repeat (first | refine XQ.then_ ?_ | refine XQ.block (by rfl) ?_)
  refine XQ.here ?_
  refine WK.seq ?_
  refine WK.region ?_
  refine Ly y_assign ?_
  refine WL.done ?_
  refine WK.ret ?_
  repeat (first | refine RQ.block ?_ | refine RQ.then_ ?_)
  refine RQ.body (results1 (by rfl) (by rfl)) (fun w s => ?_)
  refine ⟨(), trivial, ?_, s.toCs (by repeat (first | exact SelL.nil | exact SelL.self | apply SelL.cons | exact Sel.here | apply Sel.there | apply SelL.skip))⟩
  rw [idxM_none (fun j y hy => hno j y (by have := (List.getElem?_eq_some_iff.1 hy).1; omega) hy)]
set_option maxRecDepth 20000 in
set_option maxHeartbeats 1000000 in
theorem containsFunc_int (f : FuncId) (caps : List Value) (X : HProp) (pr : Int → Bool) (hp : PredF Tryz.prog f caps X (Value.int .i64) (fun _ => True) pr) (p : Bool) (ad : Option Addr) (len cap : Nat) (l : List Int) (hlen : len ≤ 1000000) :
  Triple Tryz.prog 44 #[.slice ad len cap, .func (.func f) #[] caps.toArray] [sl p 3 1 ad len cap (l.map (Value.int .i64)), X] (Unit) (fun _ => True) (fun _ => .bool (l.any pr)) (fun _ => [sl p 3 1 ad len cap (l.map (Value.int .i64)), X]) := by
 refine Triple.of_body (args := [.slice ad len cap, .func (.func f) #[] caps.toArray]) Tryz.func44 rfl Tryz.ntmps44 (by simp) (fun g F => ?_)
 dsimp only [numb, List.cons_append, List.nil_append]
 refine WK.seq ?_
 refine WK.region ?_
 refine Ly y_assign ?_
 refine WL.done ?_
 refine WK.seq ?_
 refine WK.region ?_
 refine Ly y_move ?_
 refine Ly y_move ?_
 refine Le (e_call (by exact Tryz.call65) (t := indexFunc_int f caps X pr hp p ad len cap l hlen)) ?_
 rintro _ -
 try dsimp only
 refine Ly y_geq ?_
 refine Ly y_assign ?_
 refine WL.done ?_
 refine WK.ret ?_
 repeat (first | refine RQ.block ?_ | refine RQ.then_ ?_)
 refine RQ.body (results1 (by rfl) (by rfl)) (fun w s => ?_)
 refine ⟨(), trivial, ?_, s.toCs (by repeat (first | exact SelL.nil | exact SelL.self | apply SelL.cons | exact Sel.here | apply Sel.there | apply SelL.skip))⟩
 rw [idxM_any]
end Go.Proofs.YtkakfmcjiabjjaaGreatDoor
