/- Plain law: package move's Split and Join make what the reference's make. -/
import Derived.Test.YtkakfmcjiabjjaaGreatDoorMovL
namespace Go.Proofs.YtkakfmcjiabjjaaGreatDoor
set_option linter.unusedVariables false
set_option linter.unusedSimpArgs false
set_option linter.unusedSectionVars false
set_option linter.unnecessarySimpa false
open Go Go.Sep

/-! ### Join -/
theorem ranges_join (s i : Int) : ∀ l : List HomeM, (rangesM l).map (fun x => (x.1, if x.2.2 = s then i else x.2.2)) = (l.map (·.frm)).zip (l.map (joinS s i))
  | [] => rfl
  | [h] => rfl
  | h :: g :: r => by
    have := ranges_join s i (g :: r)
    simp only [rangesM, List.map_cons, List.zip_cons_cons] at this ⊢
    rw [this]
    rfl
theorem join_eq (l : List HomeM) (s i : Int) : changedM (joinRw s i) l = refJoinM l s i := by
  unfold changedM refJoinM normM
  rw [← ranges_join, List.foldl_map]
  rfl

/-! ### Split -/
def piecesM (a b s : Int) (x : Int × Int × Int) : List (Int × Int) :=
  (if x.1 < a then [(x.1, x.2.2)] else []) ++ ((if max x.1 a ≤ min x.2.1 b then [(max x.1 a, s)] else []) ++ (if b < x.2.1 then [(max x.1 (b + 1), x.2.2)] else []))
theorem splitRw_pieces (a b s : Int) (o : List HomeM) (x : Int × Int × Int) : splitRw a b s o x = (piecesM a b s x).foldl normF o := by
  unfold splitRw splitC splitB splitA piecesM
  rw [List.foldl_append, List.foldl_append]
  split <;> split <;> split <;> rfl
theorem changed_pieces (a b s : Int) (l : List (Int × Int × Int)) : ∀ o, l.foldl (splitRw a b s) o = (l.flatMap (piecesM a b s)).foldl normF o := by
  induction l with
  | nil => intro o; rfl
  | cons x l ih =>
    intro o
    rw [List.foldl_cons, List.flatMap_cons, List.foldl_append, ih, splitRw_pieces]
theorem pieces_in {a b s : Int} {x : Int × Int × Int} (hx : x.1 ≤ x.2.1) (hab : a ≤ b) : ∀ z ∈ piecesM a b s x, x.1 ≤ z.1 ∧ z.1 ≤ x.2.1 := by
  intro z hz
  unfold piecesM at hz
  simp only [List.mem_append] at hz
  rcases hz with hz | hz | hz
  · split at hz
    · rw [List.mem_singleton.1 hz]; exact ⟨Int.le_refl _, hx⟩
    · cases hz
  · split at hz
    · rw [List.mem_singleton.1 hz]; dsimp only; omega
    · cases hz
  · split at hz
    · rw [List.mem_singleton.1 hz]; dsimp only; omega
    · cases hz
theorem pieces_sorted {a b s : Int} {x : Int × Int × Int} (hx : x.1 ≤ x.2.1) (hab : a ≤ b) : (piecesM a b s x).Pairwise (fun x y => x.1 < y.1) := by
  unfold piecesM
  split <;> split <;> split <;> simp <;> omega
theorem pieces_head {a b s : Int} {x : Int × Int × Int} (hx : x.1 ≤ x.2.1) (hab : a ≤ b) : ∃ y r, piecesM a b s x = y :: r ∧ y.1 = x.1 := by
  unfold piecesM
  by_cases h1 : x.1 < a
  · rw [if_pos h1]
    exact ⟨_, _, rfl, rfl⟩
  · rw [if_neg h1]
    by_cases h2 : max x.1 a ≤ min x.2.1 b
    · rw [if_pos h2]
      exact ⟨_, _, rfl, by dsimp only; omega⟩
    · rw [if_neg h2, if_pos (by omega)]
      exact ⟨_, _, rfl, by dsimp only; omega⟩
theorem pieces_stp {a b s c t : Int} {x : Int × Int × Int} (hab : a ≤ b) (h1 : x.1 ≤ c) (h2 : c ≤ x.2.1) : stp c t (piecesM a b s x) = if a ≤ c ∧ c ≤ b then s else x.2.2 := by
  unfold piecesM stp
  by_cases k1 : x.1 < a <;> by_cases k2 : max x.1 a ≤ min x.2.1 b <;> by_cases k3 : b < x.2.1 <;>
    simp only [k1, k2, k3, if_true, if_false, List.nil_append, List.append_nil, List.cons_append, List.foldl_cons, List.foldl_nil, stepF] <;>
    (repeat split) <;> first | rfl | omega
theorem stp_stay {c t : Int} : ∀ {l : List (Int × Int)}, (∀ z ∈ l, c < z.1) → stp c t l = t
  | [], _ => rfl
  | z :: l, h => by
    have := h z (by simp)
    unfold stp
    rw [List.foldl_cons, stepF, if_neg (by omega)]
    exact stp_stay (fun y hy => h y (by simp [hy]))
theorem ranges_in : ∀ {r : List HomeM} {h : HomeM}, Inc (h :: r) → (∀ x ∈ h :: r, x.frm ≤ 1073741824) → ∀ x ∈ rangesM (h :: r), h.frm ≤ x.1 ∧ x.1 ≤ x.2.1 ∧ x.2.1 ≤ 1073741824 := by
  intro r
  induction r with
  | nil =>
    intro h _ hb x hx
    rw [rangesM, List.mem_singleton] at hx
    subst hx
    have := hb h (by simp)
    dsimp only
    omega
  | cons g r ih =>
    intro h hi hb x hx
    obtain ⟨i1, i2⟩ := List.pairwise_cons.1 hi
    have h1 := i1 g (by simp)
    have h2 := hb g (by simp)
    simp only [rangesM, List.mem_cons] at hx
    rcases hx with rfl | hx
    · dsimp only; omega
    · have := ih i2 (fun y hy => hb y (by simp [List.mem_cons.1 hy])) x (by simpa using hx)
      omega
theorem split_stp {a b s : Int} (hab : a ≤ b) : ∀ {r : List HomeM} {h : HomeM} {c t : Int}, Inc (h :: r) → (∀ x ∈ h :: r, x.frm ≤ 1073741824) → h.frm ≤ c → c ≤ 1073741824 →
    stp c t ((rangesM (h :: r)).flatMap (piecesM a b s)) = if a ≤ c ∧ c ≤ b then s else fnd c t (h :: r) := by
  intro r
  induction r with
  | nil =>
    intro h c t _ _ h1 h2
    rw [rangesM, List.flatMap_cons, List.flatMap_nil, List.append_nil, pieces_stp hab h1 h2, fnd_head h1 (by simp)]
  | cons g r ih =>
    intro h c t hi hb h1 h2
    obtain ⟨i1, i2⟩ := List.pairwise_cons.1 hi
    have hg := i1 g (by simp)
    have e : stp c t ((rangesM (h :: g :: r)).flatMap (piecesM a b s)) = stp c (stp c t (piecesM a b s (h.frm, g.frm - 1, h.shard))) ((rangesM (g :: r)).flatMap (piecesM a b s)) := by
      rw [rangesM, List.flatMap_cons]
      unfold stp
      rw [List.foldl_append]
    rw [e]
    by_cases k : g.frm ≤ c
    · rw [ih i2 (fun y hy => hb y (by simp [List.mem_cons.1 hy])) k h2, fnd_cons (h := h) (s := t) h1, fnd_init (s := h.shard) (t := stp c t (piecesM a b s (h.frm, g.frm - 1, h.shard))) k]
    · rw [stp_stay, pieces_stp hab h1 (by dsimp only; omega), fnd_head h1 (fun y hy => by
        rcases List.mem_cons.1 hy with rfl | hy
        · omega
        · have := (List.pairwise_cons.1 i2).1 y hy; omega)]
      intro z hz
      obtain ⟨x, hx, hz⟩ := List.mem_flatMap.1 hz
      have hr := ranges_in i2 (fun y hy => hb y (by simp [List.mem_cons.1 hy])) x hx
      have := pieces_in hr.2.1 hab z hz
      omega
theorem split_sorted {a b s : Int} (hab : a ≤ b) : ∀ {r : List HomeM} {h : HomeM}, Inc (h :: r) → (∀ x ∈ h :: r, x.frm ≤ 1073741824) → ((rangesM (h :: r)).flatMap (piecesM a b s)).Pairwise (fun x y => x.1 < y.1) := by
  intro r
  induction r with
  | nil =>
    intro h _ hb
    have := hb h (by simp)
    rw [rangesM, List.flatMap_cons, List.flatMap_nil, List.append_nil]
    exact pieces_sorted this hab
  | cons g r ih =>
    intro h hi hb
    obtain ⟨i1, i2⟩ := List.pairwise_cons.1 hi
    have hg := i1 g (by simp)
    rw [rangesM, List.flatMap_cons, List.pairwise_append]
    refine ⟨pieces_sorted (by dsimp only; omega) hab, ih i2 (fun y hy => hb y (by simp [List.mem_cons.1 hy])), fun x hx y hy => ?_⟩
    have h1 := pieces_in (by dsimp only; omega) hab x hx
    obtain ⟨z, hz, hy⟩ := List.mem_flatMap.1 hy
    have hr := ranges_in i2 (fun y hy => hb y (by simp [List.mem_cons.1 hy])) z hz
    have := pieces_in hr.2.1 hab y hy
    dsimp only at h1
    omega

/-! ### The reference's points -/
theorem putM_mem : ∀ {l : List Int} {n x : Int}, x ∈ putM l n ↔ x ∈ l ∨ x = n
  | [], n, x => by simp [putM]
  | y :: r, n, x => by
    have ih := putM_mem (l := r) (n := n) (x := x)
    unfold putM
    split
    · simp only [List.mem_cons, ih]
      constructor
      · rintro (h | h | h) <;> simp [h]
      · rintro ((h | h) | h) <;> simp [h]
    · split
      · rename_i h
        subst h
        simp only [List.mem_cons]
        constructor
        · exact .inl
        · rintro (h | h)
          · exact h
          · exact .inl h
      · simp only [List.mem_cons]
        constructor
        · rintro (h | h | h) <;> simp [h]
        · rintro ((h | h) | h) <;> simp [h]
theorem putM_sorted : ∀ {l : List Int} {n : Int}, l.Pairwise (· < ·) → (putM l n).Pairwise (· < ·)
  | [], n, _ => by simp [putM]
  | y :: r, n, p => by
    obtain ⟨p1, p2⟩ := List.pairwise_cons.1 p
    unfold putM
    split
    · rename_i h
      refine List.pairwise_cons.2 ⟨fun z hz => ?_, putM_sorted p2⟩
      rcases putM_mem.1 hz with hz | rfl
      · exact p1 z hz
      · exact h
    · split
      · exact p
      · refine List.pairwise_cons.2 ⟨fun z hz => ?_, p⟩
        rcases List.mem_cons.1 hz with rfl | hz
        · omega
        · have := p1 z hz; omega
theorem foldl_put : ∀ (l : List HomeM) (a : List Int), a.Pairwise (· < ·) → (l.foldl putF a).Pairwise (· < ·) ∧ ∀ x, x ∈ l.foldl putF a ↔ x ∈ a ∨ ∃ h ∈ l, x = h.frm
  | [], a, p => ⟨p, fun x => by simp⟩
  | h :: l, a, p => by
    obtain ⟨i1, i2⟩ := foldl_put l (putF a h) (putM_sorted p)
    refine ⟨i1, fun x => ?_⟩
    rw [List.foldl_cons, i2, putF, putM_mem]
    constructor
    · rintro ((k | k) | ⟨g, hg, k⟩)
      · exact .inl k
      · exact .inr ⟨h, by simp, k⟩
      · exact .inr ⟨g, by simp [hg], k⟩
    · rintro (k | ⟨g, hg, k⟩)
      · exact .inl (.inl k)
      · rcases List.mem_cons.1 hg with rfl | hg
        · exact .inl (.inr k)
        · exact .inr ⟨g, hg, k⟩
theorem points_spec (l : List HomeM) (a b : Int) : (pointsM l a b).Pairwise (· < ·) ∧ ∀ x, x ∈ pointsM l a b ↔ (∃ h ∈ l, x = h.frm) ∨ x = a ∨ (b < 1073741824 ∧ x = b + 1) := by
  obtain ⟨i1, i2⟩ := foldl_put l [] .nil
  unfold pointsM
  dsimp only
  split
  · rename_i h
    refine ⟨putM_sorted (putM_sorted i1), fun x => ?_⟩
    rw [putM_mem, putM_mem, i2]
    simp [h, or_assoc]
  · rename_i h
    refine ⟨putM_sorted i1, fun x => ?_⟩
    rw [putM_mem, i2]
    simp [h]
/-- Of increasing numbers that begin at or ahead of c, the last one that is not behind c says what is said of c. -/
theorem stp_last (f : Int → Int) : ∀ {l : List Int} {p c t : Int}, (p :: l).Pairwise (· < ·) → p ≤ c → ∃ q ∈ p :: l, q ≤ c ∧ (∀ z ∈ p :: l, z ≤ c → z ≤ q) ∧ stp c t ((p :: l).zip ((p :: l).map f)) = f q
  | [], p, c, t, _, h => ⟨p, by simp, h, by simp, by simp [stp, stepF, h]⟩
  | g :: l, p, c, t, pw, h => by
    obtain ⟨p1, p2⟩ := List.pairwise_cons.1 pw
    by_cases k : g ≤ c
    · obtain ⟨q, q1, q2, q3, q4⟩ := stp_last f (t := f p) p2 k
      refine ⟨q, List.mem_cons_of_mem _ q1, q2, fun z hz hc => ?_, ?_⟩
      · rcases List.mem_cons.1 hz with rfl | hz
        · have := p1 g (by simp)
          have := q3 g (by simp) k
          omega
        · exact q3 z hz hc
      · rw [← q4]
        simp only [List.map_cons, List.zip_cons_cons]
        unfold stp
        rw [List.foldl_cons, stepF, if_pos h]
    · refine ⟨p, by simp, h, fun z hz hc => ?_, ?_⟩
      · rcases List.mem_cons.1 hz with rfl | hz
        · exact Int.le_refl _
        · rcases List.mem_cons.1 hz with rfl | hz
          · omega
          · have := (List.pairwise_cons.1 p2).1 z hz; omega
      · simp only [List.map_cons, List.zip_cons_cons]
        have e : stp c t ((p, f p) :: (g, f g) :: l.zip (l.map f)) = stp c (f p) ((g, f g) :: l.zip (l.map f)) := by
          unfold stp
          rw [List.foldl_cons, stepF, if_pos h]
        rw [e]
        refine stp_stay fun z hz => ?_
        rcases List.mem_cons.1 hz with rfl | hz
        · dsimp only; omega
        · have := (List.pairwise_cons.1 p2).1 z.1 (List.of_mem_zip (a := z.1) (b := z.2) hz).1
          omega
theorem fnd_same {c d t : Int} : ∀ {l : List HomeM}, (∀ h ∈ l, (h.frm ≤ c ↔ h.frm ≤ d)) → ∀ t, fnd c t l = fnd d t l
  | [], _, _ => rfl
  | h :: l, k, t => by
    unfold fnd
    rw [List.foldl_cons, List.foldl_cons]
    have e : findF c t h = findF d t h := by
      unfold findF
      have := k h (by simp)
      by_cases q : h.frm ≤ c
      · rw [if_pos q, if_pos (this.1 q)]
      · rw [if_neg q, if_neg (fun x => q (this.2 x))]
    rw [e]
    exact fnd_same (t := t) (fun y hy => k y (by simp [hy])) _
theorem split_eq {l : List HomeM} {a b s : Int} (ok : SplitOK l a b s) : changedM (splitRw a b s) l = refSplitM l a b s := by
  obtain ⟨v, hs, h1, h2, h3⟩ := ok
  cases l with
  | nil => exact absurd rfl v.2.2.1
  | cons h r =>
    have hi := VH_inc v
    have hb : ∀ x ∈ h :: r, x.frm ≤ 1073741824 := fun x hx => by
      obtain ⟨j, hj⟩ := List.getElem?_of_mem hx
      exact (v.2.2.2 j x hj).2.2.1
    have hf : h.frm = 1 := (v.2.2.2 0 h rfl).2.2.2.1 rfl
    obtain ⟨p1, p2⟩ := points_spec (h :: r) a b
    unfold changedM
    rw [changed_pieces]
    show normM ((rangesM (h :: r)).flatMap (piecesM a b s)) = refSplitM (h :: r) a b s
    unfold refSplitM
    have hst : ∀ c, h.frm ≤ c → c ≤ 1073741824 → stp c 0 ((rangesM (h :: r)).flatMap (piecesM a b s)) = if a ≤ c ∧ c ≤ b then s else fnd c 0 (h :: r) := fun c k1 k2 => split_stp h2 hi hb k1 k2
    have hso := split_sorted (s := s) h2 hi hb
    -- the first piece and the first point
    obtain ⟨y, q, hq, hy⟩ : ∃ y q, (rangesM (h :: r)).flatMap (piecesM a b s) = y :: q ∧ y.1 = 1 := by
      cases r with
      | nil =>
        have := hb h (by simp)
        obtain ⟨y, q, e, ey⟩ := pieces_head (a := a) (b := b) (s := s) (x := (h.frm, 1073741824, h.shard)) this h2
        exact ⟨y, q, by rw [rangesM, List.flatMap_cons, e]; simp, by rw [ey]; exact hf⟩
      | cons g r =>
        have := (List.pairwise_cons.1 hi).1 g (by simp)
        obtain ⟨y, q, e, ey⟩ := pieces_head (a := a) (b := b) (s := s) (x := (h.frm, g.frm - 1, h.shard)) (by dsimp only; omega) h2
        exact ⟨y, q ++ (rangesM (g :: r)).flatMap (piecesM a b s), by rw [rangesM, List.flatMap_cons, e]; rfl, by rw [ey]; exact hf⟩
    have hle : ∀ x ∈ pointsM (h :: r) a b, 1 ≤ x ∧ x ≤ 1073741824 := fun x hx => by
      rcases (p2 x).1 hx with ⟨g, hg, rfl⟩ | rfl | ⟨k, rfl⟩
      · refine ⟨?_, hb g hg⟩
        rcases List.mem_cons.1 hg with rfl | hg
        · omega
        · have := (List.pairwise_cons.1 hi).1 g hg; omega
      · omega
      · omega
    have hm : (1 : Int) ∈ pointsM (h :: r) a b := (p2 1).2 (.inl ⟨h, by simp, hf.symm⟩)
    obtain ⟨pt, hpt⟩ : ∃ pt, pointsM (h :: r) a b = pt := ⟨_, rfl⟩
    rw [hpt] at p1 p2 hle hm ⊢
    cases pt with
    | nil => cases hm
    | cons p pt =>
      have hp : p = 1 := by
        rcases List.mem_cons.1 hm with e | e
        · exact e.symm
        · have := (List.pairwise_cons.1 p1).1 1 e
          have := (hle p (by simp)).1
          omega
      subst hp
      rw [hq] at hst hso ⊢
      rw [List.map_cons, List.zip_cons_cons]
      refine normM_eq hso ?_ hy (fun z hz => ?_) (fun z hz => ?_) fun c hc hc2 => ?_
      · rw [← List.zip_cons_cons, ← List.map_cons, List.pairwise_iff_getElem]
        intro i j hi' hj' hij
        simp only [List.getElem_zip]
        exact List.pairwise_iff_getElem.1 p1 i j (by simp at hi'; simpa using hi') (by simp at hj'; simpa using hj') hij
      · rw [← hq] at hz
        obtain ⟨x, hx, hz⟩ := List.mem_flatMap.1 hz
        have hr := ranges_in hi hb x hx
        have := pieces_in hr.2.1 h2 z hz
        omega
      · rw [← List.zip_cons_cons, ← List.map_cons] at hz
        exact (hle z.1 (List.of_mem_zip (a := z.1) (b := z.2) hz).1).2
      · rw [hst c (by omega) hc2, ← List.zip_cons_cons, ← List.map_cons]
        obtain ⟨z, z1, z2, z3, z4⟩ := stp_last (shardAt (h :: r) a b s) (t := 0) p1 (c := c) (by omega)
        rw [z4]
        have ka : a ≤ z ↔ a ≤ c := ⟨fun k => by omega, fun k => z3 a ((p2 a).2 (.inr (.inl rfl))) k⟩
        have kb : z ≤ b ↔ c ≤ b := by
          constructor
          · intro k
            by_cases hbm : b < 1073741824
            · by_cases hcb : c ≤ b
              · exact hcb
              · have := z3 (b + 1) ((p2 (b + 1)).2 (.inr (.inr ⟨hbm, rfl⟩))) (by omega)
                omega
            · omega
          · intro k; omega
        have kf : fnd c 0 (h :: r) = findM (h :: r) z := fnd_same (t := 0) (fun g hg => ⟨fun k => z3 g.frm ((p2 g.frm).2 (.inl ⟨g, hg, rfl⟩)) k, fun k => by omega⟩) 0
        rw [kf]
        unfold shardAt
        by_cases k : a ≤ c ∧ c ≤ b
        · rw [if_pos k, if_pos ⟨ka.2 k.1, kb.2 k.2⟩]
        · rw [if_neg k, if_neg (fun x => k ⟨ka.1 x.1, kb.1 x.2⟩)]
end Go.Proofs.YtkakfmcjiabjjaaGreatDoor
