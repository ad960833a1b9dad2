/- Plain law: homes are determined by the shard of each account; Split and Join of package move and of the reference lead to the same homes. -/
import Derived.Test.YtkakfmcjiabjjaaGreatDoorMoveE
namespace Go.Proofs.YtkakfmcjiabjjaaGreatDoor
set_option linter.unusedVariables false
set_option linter.unusedSimpArgs false
set_option linter.unusedSectionVars false
set_option linter.unnecessarySimpa false
open Go Go.Sep

def NormFrom : List HomeM → Prop
  | [] => True
  | [_] => True
  | h :: g :: r => h.frm < g.frm ∧ h.shard ≠ g.shard ∧ NormFrom (g :: r)
def fnd (a s : Int) (l : List HomeM) : Int := l.foldl (findF a) s
theorem fnd_cons {a s : Int} {h : HomeM} {r : List HomeM} (k : h.frm ≤ a) : fnd a s (h :: r) = fnd a h.shard r := by
  unfold fnd
  rw [List.foldl_cons, findF, if_pos k]
theorem fnd_init {a s t : Int} {h : HomeM} {r : List HomeM} (k : h.frm ≤ a) : fnd a s (h :: r) = fnd a t (h :: r) := by
  rw [fnd_cons k, fnd_cons k]
theorem NormFrom.lt : ∀ {h : HomeM} {r : List HomeM}, NormFrom (h :: r) → ∀ x ∈ r, h.frm < x.frm
  | _, [], _, _, k => by cases k
  | h, g :: r, n, x, k => by
    rcases List.mem_cons.1 k with rfl | k
    · exact n.1
    · have := NormFrom.lt n.2.2 x k
      have := n.1
      omega
theorem fnd_head {a s : Int} {h : HomeM} {r : List HomeM} (k : h.frm ≤ a) (hr : ∀ x ∈ r, a < x.frm) : fnd a s (h :: r) = h.shard := by
  rw [fnd_cons k]
  exact foldF_stay hr
theorem norm_unique : ∀ {r1 r2 : List HomeM} {h1 h2 : HomeM} {s : Int}, NormFrom (h1 :: r1) → NormFrom (h2 :: r2) → h1.frm = h2.frm → (∀ x ∈ h1 :: r1, x.frm ≤ 1073741824) → (∀ x ∈ h2 :: r2, x.frm ≤ 1073741824) →
    (∀ a, h1.frm ≤ a → a ≤ 1073741824 → fnd a s (h1 :: r1) = fnd a s (h2 :: r2)) → h1 :: r1 = h2 :: r2 := by
  intro r1
  induction r1 with
  | nil =>
    intro r2 h1 h2 s n1 n2 hf b1 b2 e
    have e0 := e h1.frm (Int.le_refl _) (b1 h1 (by simp))
    rw [fnd_head (Int.le_refl _) (by simp), fnd_head (by omega) (fun x hx => by have := n2.lt x hx; omega)] at e0
    cases r2 with
    | nil =>
      cases h1; cases h2
      simp only at hf e0
      rw [hf, e0]
    | cons g r2 =>
      have e1 := e g.frm (by have := n2.1; omega) (b2 g (by simp))
      rw [fnd_head (by have := n2.1; omega) (by simp), fnd_cons (by have := n2.1; omega), fnd_head (Int.le_refl _) (fun x hx => n2.2.2.lt x hx)] at e1
      exact absurd (e0.symm.trans e1) n2.2.1
  | cons g1 r1 ih =>
    intro r2 h1 h2 s n1 n2 hf b1 b2 e
    have e0 := e h1.frm (Int.le_refl _) (b1 h1 (by simp))
    rw [fnd_head (Int.le_refl _) (fun x hx => n1.lt x hx), fnd_head (by omega) (fun x hx => by have := n2.lt x hx; omega)] at e0
    have l1 := n1.1
    cases r2 with
    | nil =>
      have e1 := e g1.frm (by omega) (b1 g1 (by simp))
      rw [fnd_cons (by omega), fnd_head (Int.le_refl _) (fun x hx => n1.2.2.lt x hx), fnd_head (by omega) (by simp)] at e1
      exact absurd (e0.trans e1.symm) n1.2.1
    | cons g2 r2 =>
      have l2 := n2.1
      have hg : g1.frm = g2.frm := by
        rcases Int.lt_trichotomy g1.frm g2.frm with k | k | k
        · have e1 := e g1.frm (by omega) (b1 g1 (by simp))
          rw [fnd_cons (by omega), fnd_head (Int.le_refl _) (fun x hx => n1.2.2.lt x hx), fnd_head (by omega) (fun x hx => by
            rcases List.mem_cons.1 hx with rfl | hx
            · omega
            · have := n2.2.2.lt x hx; omega)] at e1
          exact absurd (e0.trans e1.symm) n1.2.1
        · exact k
        · have e1 := e g2.frm (by omega) (b2 g2 (by simp))
          rw [fnd_head (by omega) (fun x hx => by
            rcases List.mem_cons.1 hx with rfl | hx
            · omega
            · have := n1.2.2.lt x hx; omega), fnd_cons (by omega), fnd_head (Int.le_refl _) (fun x hx => n2.2.2.lt x hx)] at e1
          exact absurd (e0.symm.trans e1) n2.2.1
      have := ih (s := s) n1.2.2 n2.2.2 hg (fun x hx => b1 x (by simp [hx])) (fun x hx => b2 x (by simp [hx])) (fun a ha hm => by
        have e1 := e a (by omega) hm
        rw [fnd_cons (h := h1) (s := s) (by omega), fnd_cons (h := h2) (s := s) (by omega)] at e1
        rw [fnd_init (t := h1.shard) ha, e1, fnd_init (s := h2.shard) (t := s) (by omega)])
      rw [this]
      congr 1
      cases h1; cases h2
      simp only at hf e0
      rw [hf, e0]

/-! ### normM keeps the shard of each account -/
def stepF (a : Int) (s : Int) (x : Int × Int) : Int := if x.1 ≤ a then x.2 else s
def stp (a s : Int) (l : List (Int × Int)) : Int := l.foldl (stepF a) s
theorem normFrom_snoc : ∀ {o : List HomeM} {x : HomeM}, NormFrom o → (∀ h ∈ o, h.frm < x.frm) → (∀ h, o.getLast? = some h → h.shard ≠ x.shard) → NormFrom (o ++ [x])
  | [], _, _, _, _ => trivial
  | [h], x, _, k, j => ⟨k h (by simp), j h rfl, trivial⟩
  | h :: g :: r, x, n, k, j => ⟨n.1, n.2.1, normFrom_snoc n.2.2 (fun y hy => k y (by simp [List.mem_cons.1 hy])) (fun y hy => j y (by rw [List.getLast?_cons_cons]; exact hy))⟩
theorem fnd_last {a s : Int} {h : HomeM} : ∀ {o : List HomeM}, o.getLast? = some h → (∀ x ∈ o, x.frm ≤ a) → fnd a s o = h.shard := by
  intro o hl hb
  obtain ⟨r, rfl⟩ : ∃ r, o = r ++ [h] := by
    rcases List.eq_nil_or_concat o with rfl | ⟨r, y, rfl⟩
    · simp at hl
    · simp at hl; exact ⟨r, by rw [hl, List.concat_eq_append]⟩
  unfold fnd
  rw [List.foldl_append, List.foldl_cons, List.foldl_nil, findF, if_pos (hb h (by simp))]
theorem norm_fold : ∀ (l : List (Int × Int)) (o : List HomeM), NormFrom o → (∀ h ∈ o, ∀ x ∈ l, h.frm < x.1) → l.Pairwise (fun x y => x.1 < y.1) → (o = [] → l ≠ []) →
    NormFrom (l.foldl normF o) ∧ (∀ h ∈ l.foldl normF o, h ∈ o ∨ ∃ x ∈ l, h.frm = x.1) ∧ ∀ a s, (o ≠ [] ∨ True) → fnd a s (l.foldl normF o) = stp a (fnd a s o) l
  | [], o, n, _, _, _ => ⟨n, fun h k => .inl k, fun a s _ => rfl⟩
  | x :: l, o, n, k, p, _ => by
    obtain ⟨p1, p2⟩ := List.pairwise_cons.1 p
    by_cases hs : o.getLast?.map (·.shard) = some x.2
    · have e : normF o x = o := by unfold normF; rw [if_pos hs]
      have ne : o ≠ [] := by rintro rfl; simp at hs
      obtain ⟨i1, i2, i3⟩ := norm_fold l o n (fun h hh y hy => k h hh y (by simp [hy])) p2 (fun h => absurd h ne)
      rw [List.foldl_cons, e]
      refine ⟨i1, fun h hh => (i2 h hh).imp id fun ⟨y, hy, hy2⟩ => ⟨y, by simp [hy], hy2⟩, fun a s _ => ?_⟩
      rw [i3 a s (.inr trivial)]
      unfold stp
      rw [List.foldl_cons]
      congr 1
      unfold stepF
      split
      · rename_i hxa
        cases hl : o.getLast? with
        | none => rw [hl] at hs; simp at hs
        | some h =>
          rw [hl] at hs
          rw [fnd_last hl (fun y hy => by have := k y hy x (by simp); omega)]
          simpa using hs
      · rfl
    · have e : normF o x = o ++ [⟨x.1, x.2⟩] := by unfold normF; rw [if_neg hs]
      have n2 : NormFrom (o ++ [⟨x.1, x.2⟩]) := normFrom_snoc n (fun h hh => k h hh x (by simp)) (fun h hh => by
        intro e2
        apply hs
        rw [hh, Option.map_some, e2])
      obtain ⟨i1, i2, i3⟩ := norm_fold l (o ++ [⟨x.1, x.2⟩]) n2 (fun h hh y hy => by
        rcases List.mem_append.1 hh with hh | hh
        · exact k h hh y (by simp [hy])
        · rw [List.mem_singleton.1 hh]; exact p1 y hy) p2 (fun h => by simp at h)
      rw [List.foldl_cons, e]
      refine ⟨i1, fun h hh => ?_, fun a s _ => ?_⟩
      · rcases i2 h hh with hh | ⟨y, hy, hy2⟩
        · rcases List.mem_append.1 hh with hh | hh
          · exact .inl hh
          · rw [List.mem_singleton.1 hh]
            exact .inr ⟨x, by simp, rfl⟩
        · exact .inr ⟨y, by simp [hy], hy2⟩
      · rw [i3 a s (.inr trivial)]
        unfold stp fnd
        rw [List.foldl_cons, List.foldl_append, List.foldl_cons, List.foldl_nil]
        rfl
theorem fold_head (l : List (Int × Int)) : ∀ (h : HomeM) (o : List HomeM), ∃ r, l.foldl normF (h :: o) = h :: r := by
  induction l with
  | nil => intro h o; exact ⟨o, rfl⟩
  | cons x l ih =>
    intro h o
    rw [List.foldl_cons]
    unfold normF
    split
    · exact ih h o
    · exact ih h (o ++ [⟨x.1, x.2⟩])
/-- Two increasing lists of pairs that begin at 1 and say the same of each account lead to the same homes. -/
theorem normM_eq {l m : List (Int × Int)} {x y : Int × Int} (pl : (x :: l).Pairwise (fun x y => x.1 < y.1)) (pm : (y :: m).Pairwise (fun x y => x.1 < y.1)) (hxy : x.1 = y.1) (bl : ∀ z ∈ x :: l, z.1 ≤ 1073741824) (bm : ∀ z ∈ y :: m, z.1 ≤ 1073741824)
    (e : ∀ a, x.1 ≤ a → a ≤ 1073741824 → stp a 0 (x :: l) = stp a 0 (y :: m)) : normM (x :: l) = normM (y :: m) := by
  have key : ∀ (z : Int × Int) (k : List (Int × Int)), (z :: k).Pairwise (fun x y => x.1 < y.1) → (∀ u ∈ z :: k, u.1 ≤ 1073741824) → ∃ r, normM (z :: k) = ⟨z.1, z.2⟩ :: r ∧ NormFrom (normM (z :: k)) ∧ (∀ h ∈ normM (z :: k), h.frm ≤ 1073741824) ∧ ∀ a, fnd a 0 (normM (z :: k)) = stp a 0 (z :: k) := by
    intro z k p b
    obtain ⟨i1, i2, i3⟩ := norm_fold (z :: k) [] trivial (by simp) p (by simp)
    obtain ⟨r, hr⟩ := fold_head k ⟨z.1, z.2⟩ []
    refine ⟨r, by unfold normM; rw [List.foldl_cons, ← hr]; rfl, i1, fun h hh => ?_, fun a => i3 a 0 (.inr trivial)⟩
    rcases i2 h hh with hh | ⟨u, hu, hu2⟩
    · cases hh
    · rw [hu2]; exact b u hu
  obtain ⟨r1, q1, n1, b1, s1⟩ := key x l pl bl
  obtain ⟨r2, q2, n2, b2, s2⟩ := key y m pm bm
  rw [q1] at n1 b1 s1 ⊢
  rw [q2] at n2 b2 s2 ⊢
  exact norm_unique (s := 0) n1 n2 hxy b1 b2 fun a h1 h2 => by rw [s1, s2]; exact e a h1 h2
end Go.Proofs.YtkakfmcjiabjjaaGreatDoor
