/- Plain law: where each account lives after Split and Join; the reference's homes are valid. -/
import Derived.Test.YtkakfmcjiabjjaaGreatDoorMovM
namespace Go.Proofs.YtkakfmcjiabjjaaGreatDoor
set_option linter.unusedVariables false
set_option linter.unusedSimpArgs false
set_option linter.unusedSectionVars false
set_option linter.unnecessarySimpa false
open Go Go.Sep

/-- Normal homes that begin at account 1, on shards below sh. -/
structure Good (sh : Int) (l : List HomeM) : Prop where
  head : ∃ s r, l = ⟨1, s⟩ :: r
  norm : NormFrom l
  frm : ∀ x ∈ l, x.frm ≤ 1073741824
  shd : ∀ x ∈ l, 0 ≤ x.shard ∧ x.shard < sh
theorem NormFrom.get : ∀ {l : List HomeM}, NormFrom l → ∀ {j : Nat} {p h : HomeM}, l[j]? = some p → l[j + 1]? = some h → p.frm < h.frm ∧ p.shard ≠ h.shard
  | [], _, _, _, _, e, _ => by simp at e
  | [x], _, j, p, h, e1, e2 => by simp at e2
  | x :: y :: r, n, 0, p, h, e1, e2 => by cases e1; cases e2; exact ⟨n.1, n.2.1⟩
  | x :: y :: r, n, j + 1, p, h, e1, e2 => NormFrom.get (l := y :: r) n.2.2 (j := j) (by simpa using e1) (by simpa using e2)
theorem normFrom_of : ∀ {l : List HomeM}, (∀ (j : Nat) (p h : HomeM), l[j]? = some p → l[j + 1]? = some h → p.frm < h.frm ∧ p.shard ≠ h.shard) → NormFrom l
  | [], _ => trivial
  | [_], _ => trivial
  | x :: y :: r, k => ⟨(k 0 x y rfl rfl).1, (k 0 x y rfl rfl).2, normFrom_of (l := y :: r) fun j p h e1 e2 => k (j + 1) p h (by simpa using e1) (by simpa using e2)⟩
theorem Good.valid {sh : Int} {l : List HomeM} (g : Good sh l) {n : Int} (h1 : 1 ≤ n) (h2 : n ≤ 12) (hs : sh ≤ n) : VH n l := by
  obtain ⟨s, r, rfl⟩ := g.head
  refine ⟨h1, h2, by simp, fun j h e => ?_⟩
  have hm := List.mem_of_getElem? e
  have := g.shd h hm
  refine ⟨this.1, by omega, g.frm h hm, fun h0 => by subst h0; cases e; rfl, fun p h0 hp => ?_⟩
  have := g.norm.get hp (by rw [show j - 1 + 1 = j from by omega]; exact e)
  exact ⟨this.1, fun k => this.2 k.symm⟩
theorem good_of {sh : Int} {l : List HomeM} (v : VH sh l) : Good sh l := by
  have hf : ∀ x ∈ l, x.frm ≤ 1073741824 ∧ 0 ≤ x.shard ∧ x.shard < sh := fun x hx => by
    obtain ⟨j, hj⟩ := List.getElem?_of_mem hx
    have := v.2.2.2 j x hj
    exact ⟨this.2.2.1, this.1, this.2.1⟩
  refine ⟨?_, normFrom_of fun j p h e1 e2 => ?_, fun x hx => (hf x hx).1, fun x hx => (hf x hx).2⟩
  · cases l with
    | nil => exact absurd rfl v.2.2.1
    | cons h r =>
      have := (v.2.2.2 0 h rfl).2.2.2.1 rfl
      exact ⟨h.shard, r, by cases h; simp only at this; rw [this]⟩
  · have := (v.2.2.2 (j + 1) h e2).2.2.2.2 p (by omega) (by simpa using e1)
    exact ⟨this.1, fun k => this.2 k.symm⟩
theorem good_unique {s1 s2 : Int} {l m : List HomeM} (g : Good s1 l) (k : Good s2 m) (e : ∀ c, 1 ≤ c → c ≤ 1073741824 → findM l c = findM m c) : l = m := by
  obtain ⟨a, r1, rfl⟩ := g.head
  obtain ⟨b, r2, rfl⟩ := k.head
  exact norm_unique (s := 0) g.norm k.norm rfl g.frm k.frm e
theorem Good.mono {a b : Int} {l : List HomeM} (g : Good a l) (h : a ≤ b) : Good b l := ⟨g.head, g.norm, g.frm, fun x hx => by have := g.shd x hx; omega⟩
theorem Good.fnd {sh : Int} {l : List HomeM} (g : Good sh l) (h1 : 1 ≤ sh) (c : Int) : 0 ≤ findM l c ∧ findM l c < sh := by
  have key : ∀ (l : List HomeM) (s : Int), (∀ x ∈ l, 0 ≤ x.shard ∧ x.shard < sh) → (0 ≤ s ∧ s < sh) → 0 ≤ l.foldl (findF c) s ∧ l.foldl (findF c) s < sh := by
    intro l
    induction l with
    | nil => intro s _ hs; exact hs
    | cons x l ih =>
      intro s hx hs
      refine ih _ (fun y hy => hx y (by simp [hy])) ?_
      unfold findF
      split
      · exact hx x (by simp)
      · exact hs
  exact key l 0 g.shd ⟨by omega, by omega⟩
theorem split_len (a b s : Int) (l : List HomeM) : (changedM (splitRw a b s) l).length ≤ 3 * l.length := by
  have := foldl_grow (splitRw_len a b s) (rangesM l) []
  rw [rangesM_len] at this
  simpa [changedM] using this
theorem join_len (s i : Int) (l : List HomeM) : (changedM (joinRw s i) l).length ≤ 3 * l.length := by
  have := foldl_grow (rw_ := joinRw s i) (fun o x => by have := normF_len o (x.1, if x.2.2 = s then i else x.2.2); unfold joinRw; omega) (rangesM l) []
  rw [rangesM_len] at this
  simpa [changedM] using this
theorem foldl_mem : ∀ (l : List (Int × Int)) (o : List HomeM), ∀ h ∈ l.foldl normF o, h ∈ o ∨ ∃ x ∈ l, h = ⟨x.1, x.2⟩
  | [], _, h, k => .inl k
  | x :: l, o, h, k => by
    rw [List.foldl_cons] at k
    rcases foldl_mem l _ h k with k | ⟨y, hy, e⟩
    · unfold normF at k
      split at k
      · exact .inl k
      · rcases List.mem_append.1 k with k | k
        · exact .inl k
        · exact .inr ⟨x, by simp, by simpa using k⟩
    · exact .inr ⟨y, by simp [hy], e⟩
/-- Increasing pairs that begin at 1, made homes. -/
theorem norm_good {sh s0 : Int} {k : List (Int × Int)} (p : ((1, s0) :: k).Pairwise (fun x y => x.1 < y.1)) (b : ∀ u ∈ (1, s0) :: k, u.1 ≤ 1073741824) (hs : ∀ u ∈ (1, s0) :: k, 0 ≤ u.2 ∧ u.2 < sh) : Good sh (normM ((1, s0) :: k)) ∧ ∀ c, findM (normM ((1, s0) :: k)) c = stp c 0 ((1, s0) :: k) := by
  obtain ⟨i1, i2, i3⟩ := norm_fold ((1, s0) :: k) [] trivial (by simp) p (by simp)
  obtain ⟨r, hr⟩ := fold_head k ⟨1, s0⟩ []
  have hm := foldl_mem ((1, s0) :: k) []
  refine ⟨⟨⟨s0, r, by unfold normM; rw [List.foldl_cons, ← hr]; rfl⟩, i1, fun h hh => ?_, fun h hh => ?_⟩, fun a => i3 a 0 (.inr trivial)⟩
  · rcases hm h hh with hh | ⟨u, hu, rfl⟩
    · cases hh
    · exact b u hu
  · rcases hm h hh with hh | ⟨u, hu, rfl⟩
    · cases hh
    · exact hs u hu
theorem good_inc {sh : Int} {l : List HomeM} (g : Good sh l) : Inc l := by
  obtain ⟨s, r, rfl⟩ := g.head
  have key : ∀ l : List HomeM, NormFrom l → l.Pairwise (fun x y => x.frm < y.frm) := by
    intro l
    induction l with
    | nil => intro _; exact List.Pairwise.nil
    | cons h r ih =>
      intro n
      refine List.pairwise_cons.2 ⟨fun x hx => n.lt x hx, ih ?_⟩
      cases r with
      | nil => trivial
      | cons y r => exact n.2.2
  exact key _ g.norm
/-! ### Join -/
theorem stp_join (s i c : Int) : ∀ (l : List HomeM) (t : Int), stp c (if t = s then i else t) ((l.map (·.frm)).zip (l.map (joinS s i))) = if fnd c t l = s then i else fnd c t l
  | [], t => rfl
  | h :: l, t => by
    have ih := stp_join s i c l
    unfold stp fnd at ih ⊢
    rw [List.map_cons, List.map_cons, List.zip_cons_cons, List.foldl_cons, List.foldl_cons, stepF, findF]
    by_cases k : h.frm ≤ c
    · rw [if_pos k, if_pos k]
      exact ih h.shard
    · rw [if_neg k, if_neg k]
      exact ih t
theorem join_good {sh : Int} {l : List HomeM} (g : Good sh l) {s i : Int} (hi : 0 ≤ i ∧ i < sh) : Good sh (changedM (joinRw s i) l) ∧ ∀ c, 1 ≤ c → findM (changedM (joinRw s i) l) c = if findM l c = s then i else findM l c := by
  have hinc := good_inc g
  rw [join_eq]
  obtain ⟨s0, r, rfl⟩ := g.head
  unfold refJoinM
  have hz : (((⟨1, s0⟩ : HomeM) :: r).map (·.frm)).zip (((⟨1, s0⟩ : HomeM) :: r).map (joinS s i)) = (1, joinS s i ⟨1, s0⟩) :: (r.map (·.frm)).zip (r.map (joinS s i)) := rfl
  have hmem : ∀ u ∈ (((⟨1, s0⟩ : HomeM) :: r).map (·.frm)).zip (((⟨1, s0⟩ : HomeM) :: r).map (joinS s i)), ∃ h ∈ ((⟨1, s0⟩ : HomeM) :: r), u = (h.frm, joinS s i h) := fun u hu => by
    rw [List.zip_map'] at hu
    obtain ⟨h, hh, rfl⟩ := List.mem_map.1 hu
    exact ⟨h, hh, rfl⟩
  have hp : ((((⟨1, s0⟩ : HomeM) :: r).map (·.frm)).zip (((⟨1, s0⟩ : HomeM) :: r).map (joinS s i))).Pairwise (fun x y => x.1 < y.1) := by
    rw [List.zip_map', List.pairwise_map]
    exact hinc
  rw [hz] at hmem hp ⊢
  obtain ⟨g1, g2⟩ := norm_good (sh := sh) hp (fun u hu => by obtain ⟨h, hh, rfl⟩ := hmem u hu; exact g.frm h hh) (fun u hu => by
    obtain ⟨h, hh, rfl⟩ := hmem u hu
    have := g.shd h hh
    show 0 ≤ joinS s i h ∧ joinS s i h < sh
    unfold joinS
    split
    · exact hi
    · exact this)
  refine ⟨g1, fun c hc => ?_⟩
  rw [g2, ← hz]
  have h1 := stp_join s i c ((⟨1, s0⟩ : HomeM) :: r) 0
  have h2 : ∀ t u : Int, stp c t ((((⟨1, s0⟩ : HomeM) :: r).map (·.frm)).zip (((⟨1, s0⟩ : HomeM) :: r).map (joinS s i))) = stp c u ((((⟨1, s0⟩ : HomeM) :: r).map (·.frm)).zip (((⟨1, s0⟩ : HomeM) :: r).map (joinS s i))) := fun t u => by
    rw [hz]
    unfold stp
    rw [List.foldl_cons, List.foldl_cons, stepF, stepF, if_pos (show (1 : Int) ≤ c from hc), if_pos (show (1 : Int) ≤ c from hc)]
  rw [h2 0 (if (0 : Int) = s then i else 0)]
  exact h1
/-! ### Split -/
theorem rangesM_shard : ∀ {l : List HomeM} {x : Int × Int × Int}, x ∈ rangesM l → ∃ h ∈ l, x.2.2 = h.shard
  | [], x, h => by cases h
  | [y], x, h => by
    rw [rangesM, List.mem_singleton] at h
    subst h
    exact ⟨y, by simp, rfl⟩
  | y :: z :: r, x, h => by
    rw [rangesM] at h
    rcases List.mem_cons.1 h with rfl | h
    · exact ⟨y, by simp, rfl⟩
    · obtain ⟨g, hg, e⟩ := rangesM_shard (l := z :: r) h
      exact ⟨g, by simp [List.mem_cons.1 hg], e⟩
theorem pieces_shard {a b s : Int} {x : Int × Int × Int} {z : Int × Int} (hz : z ∈ piecesM a b s x) : z.2 = s ∨ z.2 = x.2.2 := by
  unfold piecesM at hz
  simp only [List.mem_append] at hz
  rcases hz with hz | hz | hz
  · split at hz
    · rw [List.mem_singleton.1 hz]; exact .inr rfl
    · cases hz
  · split at hz
    · rw [List.mem_singleton.1 hz]; exact .inl rfl
    · cases hz
  · split at hz
    · rw [List.mem_singleton.1 hz]; exact .inr rfl
    · cases hz
theorem split_good {sh : Int} {l : List HomeM} (g : Good sh l) {a b s : Int} (hs : 0 ≤ s ∧ s < sh) (hab : a ≤ b) : Good sh (changedM (splitRw a b s) l) ∧ ∀ c, 1 ≤ c → c ≤ 1073741824 → findM (changedM (splitRw a b s) l) c = if a ≤ c ∧ c ≤ b then s else findM l c := by
  have hi := good_inc g
  have hb := g.frm
  have hsd := g.shd
  obtain ⟨s0, r, rfl⟩ := g.head
  unfold changedM
  rw [changed_pieces]
  show Good sh (normM ((rangesM (⟨1, s0⟩ :: r)).flatMap (piecesM a b s))) ∧ ∀ c, 1 ≤ c → c ≤ 1073741824 → findM (normM ((rangesM (⟨1, s0⟩ :: r)).flatMap (piecesM a b s))) c = _
  have hst : ∀ c, 1 ≤ c → c ≤ 1073741824 → stp c 0 ((rangesM (⟨1, s0⟩ :: r)).flatMap (piecesM a b s)) = if a ≤ c ∧ c ≤ b then s else fnd c 0 (⟨1, s0⟩ :: r) := fun c k1 k2 => split_stp hab hi hb k1 k2
  have hso := split_sorted (s := s) hab hi hb
  have hin : ∀ z ∈ (rangesM (⟨1, s0⟩ :: r)).flatMap (piecesM a b s), z.1 ≤ 1073741824 ∧ (0 ≤ z.2 ∧ z.2 < sh) := fun z hz => by
    obtain ⟨x, hx, hz⟩ := List.mem_flatMap.1 hz
    have hr := ranges_in hi hb x hx
    have hp := pieces_in hr.2.1 hab z hz
    obtain ⟨h, hh, he⟩ := rangesM_shard hx
    have := hsd h hh
    rcases pieces_shard hz with k | k
    · rw [k]; exact ⟨by omega, hs⟩
    · rw [k, he]; exact ⟨by omega, this⟩
  obtain ⟨y, q, hq, hy⟩ : ∃ y q, (rangesM (⟨1, s0⟩ :: r)).flatMap (piecesM a b s) = y :: q ∧ y.1 = 1 := by
    cases r with
    | nil =>
      obtain ⟨y, q, e, ey⟩ := pieces_head (a := a) (b := b) (s := s) (x := (1, 1073741824, s0)) (show (1 : Int) ≤ 1073741824 by decide) hab
      exact ⟨y, q, by rw [rangesM, List.flatMap_cons, e]; simp, ey⟩
    | cons g2 r =>
      have := (List.pairwise_cons.1 hi).1 g2 (by simp)
      obtain ⟨y, q, e, ey⟩ := pieces_head (a := a) (b := b) (s := s) (x := (1, g2.frm - 1, s0)) (by dsimp only at this ⊢; omega) hab
      exact ⟨y, q ++ (rangesM (g2 :: r)).flatMap (piecesM a b s), by rw [rangesM, List.flatMap_cons, e]; rfl, ey⟩
  rw [hq] at hst hso hin ⊢
  obtain ⟨y1, y2⟩ := y
  dsimp only at hy
  subst hy
  obtain ⟨g1, g2⟩ := norm_good (sh := sh) hso (fun u hu => (hin u hu).1) (fun u hu => (hin u hu).2)
  exact ⟨g1, fun c k1 k2 => by rw [g2, hst c k1 k2]; rfl⟩
/-! ### The reference's homes -/
theorem homesGo_inv (sh : Int) (l : List Int) (at_ : Int) (h1 : 1 ≤ sh) : ∀ n, ((homesGo sh l at_ n).2.1.Pairwise (· < ·) ∧ (∀ x ∈ (homesGo sh l at_ n).2.1, x ≤ (homesGo sh l at_ n).1) ∧ (∃ q, (homesGo sh l at_ n).2.1 = 1 :: q)) ∧ ∀ x ∈ (homesGo sh l at_ n).2.2, 0 ≤ x ∧ x < sh
  | 0 => by
    have := pickM_range l at_ sh h1
    refine ⟨⟨by simp [homesGo], by simp [homesGo], ⟨[], rfl⟩⟩, fun x hx => ?_⟩
    obtain rfl : x = _ := by simpa [homesGo] using hx
    exact this
  | n + 1 => by
    obtain ⟨⟨i1, i2, q, i3⟩, i4⟩ := homesGo_inv sh l at_ h1 n
    have hp := pickM_range l (at_ + 2 * n + 2) 4 (by omega)
    have hq := pickM_range l (at_ + 2 * n + 3) sh h1
    simp only [homesGo]
    refine ⟨⟨?_, ?_, ?_⟩, ?_⟩
    · rw [List.pairwise_append]
      refine ⟨i1, by simp, fun x hx y hy => ?_⟩
      obtain rfl := List.mem_singleton.1 hy
      have := i2 x hx
      omega
    · intro x hx
      rcases List.mem_append.1 hx with hx | hx
      · have := i2 x hx; omega
      · rw [List.mem_singleton.1 hx]; omega
    · exact ⟨q ++ [_], by rw [i3]; rfl⟩
    · intro x hx
      rcases List.mem_append.1 hx with hx | hx
      · exact i4 x hx
      · rw [List.mem_singleton.1 hx]; exact hq
theorem refHomes_good (sh : Int) (l : List Int) (at_ : Int) (h1 : 1 ≤ sh) : Good sh (refHomesM sh l at_) := by
  have h3 := pickM_range l (at_ + 1) 6 (by omega)
  obtain ⟨M, hM⟩ : ∃ M, (pickM l (at_ + 1) 6).toNat = M := ⟨_, rfl⟩
  have hM5 : M ≤ 5 := by omega
  show Good sh (normM ((homesGo sh l at_ (pickM l (at_ + 1) 6).toNat).2.1.zip (homesGo sh l at_ (pickM l (at_ + 1) 6).toNat).2.2))
  rw [hM]
  obtain ⟨⟨i1, i2, q, i3⟩, i4⟩ := homesGo_inv sh l at_ h1 M
  obtain ⟨e1, e2, e3, e4⟩ := homesGo_len sh l at_ M
  obtain ⟨R, hR⟩ : ∃ R, homesGo sh l at_ M = R := ⟨_, rfl⟩
  rw [hR] at i1 i2 i3 i4 e1 e2 e3 e4 ⊢
  obtain ⟨nx, fs, ss⟩ := R
  dsimp only at i1 i2 i3 i4 e1 e2 e3 e4 ⊢
  subst i3
  cases ss with
  | nil => simp at e2
  | cons s0 ss =>
    rw [List.zip_cons_cons]
    refine (norm_good (sh := sh) ?_ ?_ ?_).1
    · rw [← List.zip_cons_cons, List.pairwise_iff_getElem]
      intro i j hi hj hij
      simp only [List.getElem_zip]
      exact List.pairwise_iff_getElem.1 i1 i j (by rw [List.length_zip] at hi; omega) (by rw [List.length_zip] at hj; omega) hij
    · intro u hu
      rw [← List.zip_cons_cons] at hu
      have := i2 u.1 (List.of_mem_zip (a := u.1) (b := u.2) hu).1
      omega
    · intro u hu
      rw [← List.zip_cons_cons] at hu
      exact i4 u.2 (List.of_mem_zip (a := u.1) (b := u.2) hu).2
end Go.Proofs.YtkakfmcjiabjjaaGreatDoor
