/- The heap as pieces that are held apart: assertions on pieces, their list, and when a world meets such a list. -/
import Derived.WalkKit
namespace Go.Sep
set_option linter.unusedVariables false
set_option linter.unusedSimpArgs false
set_option linter.unusedSectionVars false
set_option linter.unnecessarySimpa false
open Go

/-- A piece of the heap: a block's object, and whether it is held alone (true) or only read (false). -/
abbrev Hp := Nat → Option (Obj × Bool)
abbrev HProp := Hp → Prop

def Hp.disj (h k : Hp) : Prop := ∀ b x y, h b = some x → k b = some y → x.2 = false ∧ y = x
def Hp.union (h k : Hp) : Hp := fun b => (h b).or (k b)
def Hp.empty : Hp := fun _ => none
def Hp.one (b : Nat) (x : Obj × Bool) : Hp := fun c => if c = b then some x else none

def sep (A B : HProp) : HProp := fun h => ∃ h1 h2, A h1 ∧ B h2 ∧ Hp.disj h1 h2 ∧ h = Hp.union h1 h2
def emp : HProp := fun h => h = Hp.empty
def sepL : List HProp → HProp
  | [] => emp
  | A :: l => sep A (sepL l)

def own (b : Nat) (o : Obj) : HProp := fun h => h = Hp.one b (o, true)
def ro (b : Nat) (o : Obj) : HProp := fun h => h = Hp.one b (o, false)
/-- held alone (p = true) or read only. -/
def held (p : Bool) (b : Nat) (o : Obj) : HProp := fun h => h = Hp.one b (o, p)

theorem Hp.disj_symm {h k : Hp} (d : h.disj k) : k.disj h := fun b x y hx hy => by
  obtain ⟨h1, h2⟩ := d b y x hy hx
  exact ⟨by rw [h2]; exact h1, h2.symm⟩

theorem Hp.union_comm {h k : Hp} (d : h.disj k) : h.union k = k.union h := by
  funext b
  unfold Hp.union
  cases hx : h b with
  | none => simp
  | some x => cases hy : k b with
    | none => simp
    | some y => simp [(d b x y hx hy).2]

theorem Hp.union_assoc (h k l : Hp) : (h.union k).union l = h.union (k.union l) := by
  funext b
  simp [Hp.union, Option.or_assoc]

theorem Hp.disj_union {h k l : Hp} : (h.disj (k.union l)) ↔ (h.disj k ∧ (h.disj l ∨ True) ∧ ∀ b x y, h b = some x → k b = none → l b = some y → x.2 = false ∧ y = x) := by
  constructor
  · intro d
    refine ⟨fun b x y hx hy => d b x y hx (by simp [Hp.union, hy]), .inr trivial, fun b x y hx hk hl => d b x y hx (by simp [Hp.union, hk, hl])⟩
  · rintro ⟨d1, _, d2⟩ b x y hx hu
    cases hk : k b with
    | none => simp [Hp.union, hk] at hu; exact d2 b x y hx hk hu
    | some z => simp [Hp.union, hk] at hu; subst hu; exact d1 b x z hx hk

theorem Hp.disj_union_mk {h k l : Hp} (d1 : h.disj k) (d2 : h.disj l) : h.disj (k.union l) :=
  Hp.disj_union.2 ⟨d1, .inr trivial, fun b x y hx _ hl => d2 b x y hx hl⟩

theorem Hp.disj_left {h k l : Hp} (d : h.disj (k.union l)) : h.disj k := (Hp.disj_union.1 d).1

/-- of two apart pieces, a third that is apart from their union is apart from each. -/
theorem Hp.disj_right {h k l : Hp} (dk : k.disj l) (d : h.disj (k.union l)) : h.disj l := by
  rw [Hp.union_comm dk] at d
  exact Hp.disj_left d

theorem Hp.empty_disj (h : Hp) : Hp.empty.disj h := fun _ _ _ hx _ => by cases hx
theorem Hp.empty_union (h : Hp) : Hp.empty.union h = h := by funext b; simp [Hp.union, Hp.empty]
theorem Hp.union_empty (h : Hp) : h.union Hp.empty = h := by funext b; simp [Hp.union, Hp.empty]

theorem sep_comm {A B : HProp} {h : Hp} (x : sep A B h) : sep B A h := by
  obtain ⟨h1, h2, a, b, d, rfl⟩ := x
  exact ⟨h2, h1, b, a, Hp.disj_symm d, Hp.union_comm d⟩

theorem sep_assoc {A B C : HProp} {h : Hp} (x : sep (sep A B) C h) : sep A (sep B C) h := by
  obtain ⟨h1, h2, ⟨h3, h4, a, b, d, rfl⟩, c, d2, rfl⟩ := x
  have e := Hp.disj_symm d2
  have e3 : h3.disj h2 := Hp.disj_symm (Hp.disj_left e)
  have e4 : h4.disj h2 := Hp.disj_symm (Hp.disj_right d e)
  exact ⟨h3, h4.union h2, a, ⟨h4, h2, b, c, e4, rfl⟩, Hp.disj_union_mk d e3, Hp.union_assoc _ _ _⟩

theorem sep_mono {A B A' B' : HProp} (f : ∀ h, A h → A' h) (g : ∀ h, B h → B' h) {h : Hp} (x : sep A B h) : sep A' B' h := by
  obtain ⟨h1, h2, a, b, d, rfl⟩ := x
  exact ⟨h1, h2, f _ a, g _ b, d, rfl⟩

theorem sep_assoc' {A B C : HProp} {h : Hp} (x : sep A (sep B C) h) : sep (sep A B) C h :=
  sep_comm (sep_assoc (sep_comm (sep_assoc (sep_comm x))))

theorem sep_swap {A B C : HProp} {h : Hp} (x : sep A (sep B C) h) : sep B (sep A C) h :=
  sep_assoc (sep_mono (fun _ => sep_comm) (fun _ c => c) (sep_assoc' x))

theorem sepL_perm {l m : List HProp} (p : l.Perm m) : ∀ {h : Hp}, sepL l h → sepL m h := by
  induction p with
  | nil => exact fun x => x
  | cons a _ ih => exact fun x => sep_mono (fun _ a => a) (fun _ => ih) x
  | swap a b l => exact fun x => sep_swap x
  | trans _ _ ih1 ih2 => exact fun x => ih2 (ih1 x)

theorem sepL_append_split : ∀ {l m : List HProp} {h : Hp}, sepL (l ++ m) h → ∃ h1 h2, sepL l h1 ∧ sepL m h2 ∧ Hp.disj h1 h2 ∧ h = Hp.union h1 h2
  | [], m, h, x => ⟨Hp.empty, h, rfl, x, Hp.empty_disj h, (Hp.empty_union h).symm⟩
  | A :: l, m, h, x => by
    obtain ⟨h1, h2, a, b, d, rfl⟩ := x
    obtain ⟨h3, h4, c, e, d2, rfl⟩ := sepL_append_split b
    exact ⟨h1.union h3, h4, ⟨h1, h3, a, c, Hp.disj_left d, rfl⟩, e, Hp.disj_symm (Hp.disj_union_mk (Hp.disj_symm (Hp.disj_right d2 d)) (Hp.disj_symm d2)), (Hp.union_assoc _ _ _).symm⟩

theorem sepL_append_join : ∀ {l m : List HProp} {h1 h2 : Hp}, sepL l h1 → sepL m h2 → Hp.disj h1 h2 → sepL (l ++ m) (Hp.union h1 h2)
  | [], m, h1, h2, x, y, _ => by
    have : h1 = Hp.empty := x
    subst this
    rw [Hp.empty_union]; exact y
  | A :: l, m, h1, h2, x, y, d => by
    obtain ⟨h3, h4, a, b, d2, rfl⟩ := x
    have e := Hp.disj_symm d
    have e3 : h3.disj h2 := Hp.disj_symm (Hp.disj_left e)
    have e4 : h4.disj h2 := Hp.disj_symm (Hp.disj_right d2 e)
    exact ⟨h3, h4.union h2, a, sepL_append_join b y e4, Hp.disj_union_mk d2 e3, Hp.union_assoc _ _ _⟩

/-- The world w meets the list l, over the memory that stood in g: the streams as in g, nothing of g's memory turned. -/
structure Sat (g w : World) (l : List HProp) : Prop where
  os : w.os = g.os
  tape : w.tape = g.tape
  output : w.output = g.output
  size : g.heap.size ≤ w.heap.size
  old : ∀ k, k < g.heap.size → w.heap[k]? = g.heap[k]?
  mem : ∃ h : Hp, sepL l h ∧ (∀ b x, h b = some x → w.heap[b]? = some x.1) ∧ (∀ b o, h b = some (o, true) → g.heap.size ≤ b)

theorem Sat.below {g w : World} {l : List HProp} (s : Sat g w l) : RowKit.Below g.heap.size g w := ⟨s.os, s.tape, s.output, s.size, s.old⟩

theorem Sat.start (g : World) : Sat g g [] := ⟨rfl, rfl, rfl, Nat.le_refl _, fun _ _ => rfl, Hp.empty, rfl, (fun _ _ h => by cases h), (fun _ _ h => by cases h)⟩

theorem Sat.perm {g w : World} {l m : List HProp} (s : Sat g w l) (p : l.Perm m) : Sat g w m :=
  let ⟨h, x, y⟩ := s.mem
  { s with mem := ⟨h, sepL_perm p x, y⟩ }

theorem Sat.drop {g w : World} {l m : List HProp} (s : Sat g w (l ++ m)) : Sat g w m := by
  obtain ⟨h, x, y, z⟩ := s.mem
  obtain ⟨h1, h2, a, b, d, rfl⟩ := sepL_append_split x
  rw [Hp.union_comm d] at y z
  refine { s with mem := ⟨h2, b, fun c x hx => y c x ?_, fun c o hx => z c o ?_⟩ } <;> simp [Hp.union, hx]

/-- Instead of the pieces l others, if whatever meets l meets them. -/
theorem Sat.conseq {g w : World} {l m r : List HProp} (s : Sat g w (l ++ r)) (f : ∀ h, sepL l h → sepL m h) : Sat g w (m ++ r) := by
  obtain ⟨h, x, y⟩ := s.mem
  obtain ⟨h1, h2, a, b, d, rfl⟩ := sepL_append_split x
  exact { s with mem := ⟨_, sepL_append_join (f _ a) b d, y⟩ }

/-- The same, with what is learned on the way. -/
theorem Sat.open_ {g w : World} {l r : List HProp} {ι : Type} {φ : ι → Prop} {m : ι → List HProp} (s : Sat g w (l ++ r))
    (f : ∀ h, sepL l h → ∃ x, φ x ∧ sepL (m x) h) : ∃ x, φ x ∧ Sat g w (m x ++ r) := by
  obtain ⟨h, x, y⟩ := s.mem
  obtain ⟨h1, h2, a, b, d, rfl⟩ := sepL_append_split x
  obtain ⟨u, p, q⟩ := f _ a
  exact ⟨u, p, { s with mem := ⟨_, sepL_append_join q b d, y⟩ }⟩

/-- A world with the same memory and streams. -/
structure Alike (w w' : World) : Prop where
  os : w'.os = w.os
  tape : w'.tape = w.tape
  output : w'.output = w.output
  heap : w'.heap = w.heap
theorem Alike.refl (w : World) : Alike w w := ⟨rfl, rfl, rfl, rfl⟩
theorem Alike.trans {a b c : World} (h : Alike a b) (k : Alike b c) : Alike a c := ⟨k.os.trans h.os, k.tape.trans h.tape, k.output.trans h.output, k.heap.trans h.heap⟩
theorem Alike.symm {a b : World} (h : Alike a b) : Alike b a := ⟨h.os.symm, h.tape.symm, h.output.symm, h.heap.symm⟩
theorem Alike.drawn (w : World) (n : Nat) : Alike w { w with drawn := n } := ⟨rfl, rfl, rfl, rfl⟩

theorem Sat.alike {g w w' : World} {l : List HProp} (s : Sat g w l) (h : Alike w w') : Sat g w' l :=
  ⟨h.os.trans s.os, h.tape.trans s.tape, h.output.trans s.output, by rw [h.heap]; exact s.size, by rw [h.heap]; exact s.old, by rw [h.heap]; exact s.mem⟩

/-! ### Picking out of a list -/

/-- A stands in l, and r is what else stands there. -/
inductive Sel {α : Type} (A : α) : List α → List α → Prop
  | here {r : List α} : Sel A (A :: r) r
  | there {B : α} {l r : List α} : Sel A l r → Sel A (B :: l) (B :: r)

theorem Sel.perm {α : Type} {A : α} {l r : List α} (s : Sel A l r) : l.Perm (A :: r) := by
  induction s with
  | here => exact .refl _
  | there _ ih => exact (List.Perm.cons _ ih).trans (.swap _ _ _)

/-- As' elements stand in l, one behind the other picked out; r is what else stands there. -/
inductive SelL {α : Type} : List α → List α → List α → Prop
  | nil {l : List α} : SelL [] l l
  | cons {A : α} {As l r r' : List α} : Sel A l r → SelL As r r' → SelL (A :: As) l r'

theorem SelL.perm {α : Type} {As l r : List α} (s : SelL As l r) : l.Perm (As ++ r) := by
  induction s with
  | nil => exact .refl _
  | cons a _ ih => exact a.perm.trans (.cons _ ih)

theorem Sat.sel {g w : World} {As l r : List HProp} (s : Sat g w l) (e : SelL As l r) : Sat g w (As ++ r) := s.perm e.perm
theorem Sat.sel1 {g w : World} {A : HProp} {l r : List HProp} (s : Sat g w l) (e : Sel A l r) : Sat g w (A :: r) := s.perm e.perm

/-- Element number i, and the rest with another in its place. -/
theorem Sel.swap {α : Type} {A : α} {l r : List α} (s : Sel A l r) : l.Perm (A :: r) := s.perm

/-! ### Blocks -/

theorem Sat.get {g w : World} {p : Bool} {b : Nat} {o : Obj} {l : List HProp} (s : Sat g w (held p b o :: l)) : w.heap[b]? = some o := by
  obtain ⟨h, ⟨h1, h2, a, _, _, rfl⟩, y, _⟩ := s.mem
  have e : h1 = Hp.one b (o, p) := a
  exact y b (o, p) (by simp [Hp.union, e, Hp.one])

theorem Sat.lt {g w : World} {p : Bool} {b : Nat} {o : Obj} {l : List HProp} (s : Sat g w (held p b o :: l)) : b < w.heap.size := by
  have h := s.get
  rcases Nat.lt_or_ge b w.heap.size with k | k
  · exact k
  · simp [Array.getElem?_eq_none k] at h

theorem Sat.ge {g w : World} {b : Nat} {o : Obj} {l : List HProp} (s : Sat g w (held true b o :: l)) : g.heap.size ≤ b := by
  obtain ⟨h, ⟨h1, h2, a, _, _, rfl⟩, _, y⟩ := s.mem
  have e : h1 = Hp.one b (o, true) := a
  exact y b o (by simp [Hp.union, e, Hp.one])

/-- Two blocks, one of them held alone, are two. -/
theorem Sat.ne {g w : World} {p : Bool} {b c : Nat} {o o' : Obj} {l : List HProp} (s : Sat g w (held true b o :: held p c o' :: l)) : b ≠ c := by
  rintro rfl
  obtain ⟨h, ⟨h1, h2, a, ⟨h3, h4, a', _, _, rfl⟩, d, rfl⟩, _, _⟩ := s.mem
  have e : h1 = Hp.one b (o, true) := a
  have e' : h3 = Hp.one b (o', p) := a'
  subst e e'
  have := d b (o, true) (o', p) (by simp [Hp.one]) (by simp [Hp.union, Hp.one])
  simp at this

/-- One block of one's own is written. -/
theorem Sat.put {g w w' : World} {b : Nat} {o o' : Obj} {l : List HProp} (s : Sat g w (held true b o :: l))
    (ho : w'.os = w.os) (ht : w'.tape = w.tape) (hu : w'.output = w.output) (hs : w'.heap.size = w.heap.size)
    (hb : w'.heap[b]? = some o') (hc : ∀ c, c ≠ b → w'.heap[c]? = w.heap[c]?) : Sat g w' (held true b o' :: l) := by
  have hge := s.ge
  refine ⟨ho.trans s.os, ht.trans s.tape, hu.trans s.output, by rw [hs]; exact s.size, fun k hk => ?_, ?_⟩
  · rw [hc k (by omega)]; exact s.old k hk
  · obtain ⟨h, ⟨h1, h2, a, x, d, rfl⟩, y, z⟩ := s.mem
    have e : h1 = Hp.one b (o, true) := a
    subst e
    have hn : h2 b = none := by
      cases hx : h2 b with
      | none => rfl
      | some u => have := d b (o, true) u (by simp [Hp.one]) hx; simp at this
    refine ⟨(Hp.one b (o', true)).union h2, ⟨_, h2, rfl, x, ?_, rfl⟩, ?_, ?_⟩
    · intro c u v hu hv
      by_cases e : c = b
      · subst e; rw [hn] at hv; cases hv
      · simp [Hp.one, e] at hu
    · intro c u hu
      by_cases e : c = b
      · subst e; simp [Hp.union, Hp.one] at hu; subst hu; exact hb
      · rw [hc c e]; refine y c u ?_; simp [Hp.union, Hp.one, e] at hu ⊢; exact hu
    · intro c u hu
      by_cases e : c = b
      · subst e; exact hge
      · refine z c u ?_; simp [Hp.union, Hp.one, e] at hu ⊢; exact hu

/-- A new block. -/
theorem Sat.new {g w w' : World} {o : Obj} {l : List HProp} (s : Sat g w l)
    (ho : w'.os = w.os) (ht : w'.tape = w.tape) (hu : w'.output = w.output) (hh : w'.heap = w.heap.push o) : Sat g w' (held true w.heap.size o :: l) := by
  have hg := s.size
  refine ⟨ho.trans s.os, ht.trans s.tape, hu.trans s.output, by rw [hh]; simp; omega, fun k hk => ?_, ?_⟩
  · rw [hh, Array.getElem?_push, if_neg (by omega)]; exact s.old k hk
  · obtain ⟨h, x, y, z⟩ := s.mem
    have hn : h w.heap.size = none := by
      cases hx : h w.heap.size with
      | none => rfl
      | some u => have := y _ _ hx; simp at this
    refine ⟨(Hp.one w.heap.size (o, true)).union h, ⟨_, h, rfl, x, ?_, rfl⟩, ?_, ?_⟩
    · intro c u v hu hv
      by_cases e : c = w.heap.size
      · subst e; rw [hn] at hv; cases hv
      · simp [Hp.one, e] at hu
    · intro c u hu
      by_cases e : c = w.heap.size
      · subst e; simp [Hp.union, Hp.one] at hu; subst hu; simp [hh]
      · have hx : h c = some u := by simpa [Hp.union, Hp.one, e] using hu
        have := y c u hx
        rw [hh, Array.getElem?_push, if_neg e]; exact this
    · intro c u hu
      by_cases e : c = w.heap.size
      · subst e; exact hg
      · refine z c u ?_; simp [Hp.union, Hp.one, e] at hu ⊢; exact hu

/-- What one holds alone may be given up to be read by all. -/
theorem Sat.freeze {g w : World} {b : Nat} {o : Obj} {l : List HProp} (s : Sat g w (held true b o :: l)) : Sat g w (held false b o :: l) := by
  obtain ⟨h, ⟨h1, h2, a, x, d, rfl⟩, y, z⟩ := s.mem
  have e : h1 = Hp.one b (o, true) := a
  subst e
  have hn : h2 b = none := by
    cases hx : h2 b with
    | none => rfl
    | some u => have := d b (o, true) u (by simp [Hp.one]) hx; simp at this
  refine { s with mem := ⟨(Hp.one b (o, false)).union h2, ⟨_, h2, rfl, x, ?_, rfl⟩, ?_, ?_⟩ }
  · intro c u v hu hv
    by_cases e : c = b
    · subst e; rw [hn] at hv; cases hv
    · simp [Hp.one, e] at hu
  · intro c u hu
    by_cases e : c = b
    · subst e; simp [Hp.union, Hp.one] at hu; subst hu; exact s.get
    · refine y c u ?_; simp [Hp.union, Hp.one, e] at hu ⊢; exact hu
  · intro c u hu
    by_cases e : c = b
    · subst e; simp [Hp.union, Hp.one] at hu
    · refine z c u ?_; simp [Hp.union, Hp.one, e] at hu ⊢; exact hu

/-- What only is read may be read twice. -/
def Dup (A : HProp) : Prop := ∀ h, A h → ∀ b x, h b = some x → x.2 = false

theorem dup_ro (b : Nat) (o : Obj) : Dup (held false b o) := fun h e c x hx => by
  have e' : h = Hp.one b (o, false) := e
  subst e'
  by_cases hc : c = b
  · simp [Hp.one, hc] at hx; rw [← hx]
  · simp [Hp.one, hc] at hx

theorem Dup.twice {A : HProp} (d : Dup A) {h : Hp} (a : A h) : sepL [A, A] h := by
  refine ⟨h, h, a, ⟨h, Hp.empty, a, rfl, Hp.disj_symm (Hp.empty_disj h), (Hp.union_empty h).symm⟩, ?_, ?_⟩
  · intro b x y hx hy; rw [hx] at hy; cases hy; exact ⟨d h a b x hx, rfl⟩
  · funext b; cases hx : h b <;> simp [Hp.union, hx]

theorem Sat.dup {g w : World} {A : HProp} {l : List HProp} (s : Sat g w (A :: l)) (d : Dup A) : Sat g w (A :: A :: l) :=
  Sat.conseq (l := [A]) (m := [A, A]) s fun h x => by
    obtain ⟨h1, h2, a, b, _, rfl⟩ := x
    have e : h2 = Hp.empty := b
    subst e
    rw [Hp.union_empty]
    exact d.twice a

/-- A block of the memory that stood at the beginning may be read. -/
theorem Sat.base {g w : World} {b : Nat} {o : Obj} {l : List HProp} (s : Sat g w l) (h : g.heap[b]? = some o) : Sat g w (held false b o :: l) := by
  have hb : b < g.heap.size := by
    rcases Nat.lt_or_ge b g.heap.size with k | k
    · exact k
    · simp [Array.getElem?_eq_none k] at h
  have hw : w.heap[b]? = some o := by rw [s.old b hb]; exact h
  obtain ⟨k, x, y, z⟩ := s.mem
  have hk : ∀ u, k b = some u → u = (o, false) := fun ⟨o', p⟩ hu => by
    have e := y b _ hu
    rw [hw] at e
    cases p with
    | false => simp at e; simp [e]
    | true => have := z b o' hu; omega
  refine { s with mem := ⟨(Hp.one b (o, false)).union k, ⟨_, k, rfl, x, ?_, rfl⟩, ?_, ?_⟩ }
  · intro c u v hu hv
    by_cases e : c = b
    · subst e
      have := hk v hv
      simp [Hp.one] at hu
      subst hu this
      exact ⟨rfl, rfl⟩
    · simp [Hp.one, e] at hu
  · intro c u hu
    by_cases e : c = b
    · subst e; simp [Hp.union, Hp.one] at hu; subst hu; exact hw
    · refine y c u ?_; simp [Hp.union, Hp.one, e] at hu ⊢; exact hu
  · intro c u hu
    by_cases e : c = b
    · subst e; simp [Hp.union, Hp.one] at hu
    · refine z c u ?_; simp [Hp.union, Hp.one, e] at hu ⊢; exact hu

end Go.Sep
