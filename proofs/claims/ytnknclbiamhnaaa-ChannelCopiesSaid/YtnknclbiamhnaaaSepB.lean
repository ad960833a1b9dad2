/- The slots of a frame as a list, and the walk over code: plain regions, regions that draw their order, tests, blocks, loops. -/
import Derived.Test.YtnknclbiamhnaaaSepA
import Derived.OrdersHeld
import Derived.Deep.LoopGhost
namespace Go.Sep
set_option linter.unusedVariables false
set_option linter.unusedSimpArgs false
open Go

def look : List (Nat × Value) → Nat → Option Value
  | [], _ => none
  | (d, v) :: r, k => match Nat.beq d k with
    | true => some v
    | false => look r k

/-- What is known of a frame's slots. -/
structure Kn (n : Nat) (K : List (Nat × Value)) (a : Act) : Prop where
  size : a.tmps.size = n
  defers : a.defers = []
  val : ∀ d v, look K d = some v → a.tmps[d]? = some v

def ev (K : List (Nat × Value)) : Operand → Option Value
  | .tmp t => look K t
  | .const v => some v
  | .global g => some (.pointer (some ⟨g, 0, none⟩))
  | .func f => some (.func (.func f) #[] #[])

theorem Kn.ev {n : Nat} {K : List (Nat × Value)} {a : Act} (h : Kn n K a) {x : Operand} {v : Value} (e : ev K x = some v) : a.eval x = v := by
  cases x with
  | tmp t =>
    have := h.val t v e
    simp [Act.eval, this]
  | const u => exact Option.some.inj e
  | global g => exact Option.some.inj e
  | func f => exact Option.some.inj e

theorem look_cons_ne {K : List (Nat × Value)} {d k : Nat} {v : Value} (h : d ≠ k) : look ((d, v) :: K) k = look K k := by
  have : Nat.beq d k = false := by
    cases e : Nat.beq d k with
    | false => rfl
    | true => exact absurd (Nat.eq_of_beq_eq_true e) h
  simp [look, this]

theorem look_cons_eq {K : List (Nat × Value)} {d : Nat} {v : Value} : look ((d, v) :: K) d = some v := by
  have : Nat.beq d d = true := by simp
  simp [look, this]

theorem Kn.put {n : Nat} {K : List (Nat × Value)} {a : Act} (h : Kn n K a) {d : Nat} (hd : d < n) (v : Value) : Kn n ((d, v) :: K) (a.put (some d) v) := by
  refine ⟨by simp [Act.put, h.size], by simp [Act.put, h.defers], fun k u hk => ?_⟩
  by_cases e : d = k
  · subst e
    rw [look_cons_eq] at hk
    cases hk
    simp [Act.put, h.size, hd]
  · rw [look_cons_ne e] at hk
    simp only [Act.put]
    rw [Array.getElem?_setIfInBounds_ne e]
    exact h.val k u hk

/-- Slot by slot: what the shorter list says, the longer one says. -/
inductive KK (K : List (Nat × Value)) : List (Nat × Value) → Prop
  | nil : KK K []
  | cons {d : Nat} {v : Value} {K' : List (Nat × Value)} : look K d = some v → KK K K' → KK K ((d, v) :: K')

theorem KK.look {K K' : List (Nat × Value)} (h : KK K K') : ∀ d v, look K' d = some v → look K d = some v := by
  induction h with
  | nil => intro d v h; cases h
  | @cons d v K' h1 _ ih =>
    intro k u hk
    by_cases e : d = k
    · subst e; rw [look_cons_eq] at hk; cases hk; exact h1
    · rw [look_cons_ne e] at hk; exact ih k u hk

theorem Kn.keep {n : Nat} {K K' : List (Nat × Value)} {a : Act} (h : Kn n K a) (k : KK K K') : Kn n K' a := ⟨h.size, h.defers, fun d v e => h.val d v (k.look d v e)⟩

/-! ### Which guarded operations are wanted -/

def Wanted (ops : Array Oper) (n : Nat) (K : List (Nat × Value)) (o : Oper) : Prop := ∀ a, Kn n K a → Region.wanted o (yielded ops a.tmps) = true
def Unwanted (ops : Array Oper) (n : Nat) (K : List (Nat × Value)) (o : Oper) : Prop := ∀ a, Kn n K a → Region.wanted o (yielded ops a.tmps) = false

theorem wanted_plain {ops : Array Oper} {n : Nat} {K : List (Nat × Value)} {o : Oper} (h : o.guard = none) : Wanted ops n K o := fun a _ => by simp [Region.wanted, h]

theorem yielded_kn {ops : Array Oper} {n : Nat} {K : List (Nat × Value)} {j d : Nat} {b : Bool} (hj : (ops[j]?).bind (·.dst) = some d) (hv : look K d = some (.bool b)) {a : Act} (k : Kn n K a) :
    yielded ops a.tmps j = some b := by
  simp [yielded, hj, k.val d _ hv]

theorem wanted_some {ops : Array Oper} {n : Nat} {K : List (Nat × Value)} {o : Oper} {j d : Nat} {b : Bool} (h : o.guard = some (j, b)) (hj : (ops[j]?).bind (·.dst) = some d) (hv : look K d = some (.bool b)) : Wanted ops n K o :=
  fun a k => by simp [Region.wanted, h, yielded_kn hj hv k]

theorem unwanted_some {ops : Array Oper} {n : Nat} {K : List (Nat × Value)} {o : Oper} {j d : Nat} {b c : Bool} (h : o.guard = some (j, b)) (hj : (ops[j]?).bind (·.dst) = some d) (hv : look K d = some (.bool c)) (hne : (c == b) = false) : Unwanted ops n K o :=
  fun a k => by
    simp only [Region.wanted, h, yielded_kn hj hv k]
    cases b <;> cases c <;> simp_all

/-- Guarded by a slot that holds no bool (a guard that was passed over). -/
theorem unwanted_undef {ops : Array Oper} {n : Nat} {K : List (Nat × Value)} {o : Oper} {j d : Nat} {b : Bool} (h : o.guard = some (j, b)) (hj : (ops[j]?).bind (·.dst) = some d) (hv : look K d = some undef) : Unwanted ops n K o :=
  fun a k => by
    have : yielded ops a.tmps j = none := by simp [yielded, hj, k.val d _ hv, undef]
    simp [Region.wanted, h, this]

/-! ### One operation -/

/-- It yields v, and does nothing else. -/
def Yld (P : Program) (g : World) (n : Nat) (o : Oper) (K : List (Nat × Value)) (Ps : List HProp) (v : Value) : Prop :=
  ∀ a w, Kn n K a → Sat g w Ps → (execOp a.eval o).run P w = .ok (.value v) w

/-- It does something: behind it, for some x with φ x, its slot holds val x, and the world meets Ps' x. -/
def Eff (P : Program) (g : World) (n : Nat) (o : Oper) (K : List (Nat × Value)) (Ps : List HProp) (ι : Type) (φ : ι → Prop) (val : ι → Value) (Ps' : ι → List HProp) : Prop :=
  ∀ a w, Kn n K a → Sat g w Ps → ∀ (next : Act → World → Prop) (Q : Exit → Act → World → Prop), (∀ x w', φ x → Sat g w' (Ps' x) → next (a.put o.dst (val x)) w') → o.wp P a w next Q

theorem Yld.eff {P : Program} {g : World} {n : Nat} {o : Oper} {K : List (Nat × Value)} {Ps : List HProp} {v : Value} (y : Yld P g n o K Ps v) :
    Eff P g n o K Ps Unit (fun _ => True) (fun _ => v) (fun _ => Ps) := fun a w k s next Q h => by
  unfold Oper.wp
  rw [y a w k s]
  exact h () w trivial s

/-! ### Plain regions -/

def WL (P : Program) (ops : Array Oper) (Q : Exit → Act → World → Prop) (g : World) (n : Nat) (l : List Oper) (K : List (Nat × Value)) (Ps : List HProp) : Prop :=
  ∀ a w, Kn n K a → Sat g w Ps → wpList P ops Q l a w

section
variable {P : Program} {ops : Array Oper} {Q : Exit → Act → World → Prop} {g : World} {n : Nat} {l : List Oper} {K : List (Nat × Value)} {Ps : List HProp}

theorem WL.yld {o : Oper} {v : Value} {d : Nat} (hw : Wanted ops n K o) (y : Yld P g n o K Ps v) (hd : o.dst = some d) (hn : d < n)
    (h : WL P ops Q g n l ((d, v) :: K) Ps) : WL P ops Q g n (o :: l) K Ps := fun a w k s => by
  unfold wpList
  rw [if_pos (hw a k)]
  refine .inl ?_
  unfold Oper.wp
  rw [y a w k s]
  show wpList P ops Q l (a.put o.dst v) w
  rw [hd]
  exact h _ w (k.put hn v) s

theorem WL.eff {o : Oper} {d : Nat} {ι : Type} {φ : ι → Prop} {val : ι → Value} {Ps' : ι → List HProp} (hw : Wanted ops n K o) (e : Eff P g n o K Ps ι φ val Ps') (hd : o.dst = some d) (hn : d < n)
    (h : ∀ x, φ x → WL P ops Q g n l ((d, val x) :: K) (Ps' x)) : WL P ops Q g n (o :: l) K Ps := fun a w k s => by
  unfold wpList
  rw [if_pos (hw a k)]
  refine .inl (e a w k s _ Q fun x w' hx s' => ?_)
  rw [hd]
  exact h x hx _ w' (k.put hn _) s'

theorem WL.eff0 {o : Oper} {ι : Type} {φ : ι → Prop} {val : ι → Value} {Ps' : ι → List HProp} (hw : Wanted ops n K o) (e : Eff P g n o K Ps ι φ val Ps') (hd : o.dst = none)
    (h : ∀ x, φ x → WL P ops Q g n l K (Ps' x)) : WL P ops Q g n (o :: l) K Ps := fun a w k s => by
  unfold wpList
  rw [if_pos (hw a k)]
  refine .inl (e a w k s _ Q fun x w' hx s' => ?_)
  rw [hd]
  exact h x hx _ w' k s'

theorem WL.skip {o : Oper} {d : Nat} (hw : Unwanted ops n K o) (hd : o.dst = some d) (hn : d < n)
    (h : WL P ops Q g n l ((d, undef) :: K) Ps) : WL P ops Q g n (o :: l) K Ps := fun a w k s => by
  unfold wpList
  rw [if_neg (by rw [hw a k]; simp), hd]
  exact h _ w (k.put hn _) s

theorem WL.skip0 {o : Oper} (hw : Unwanted ops n K o) (hd : o.dst = none) (h : WL P ops Q g n l K Ps) : WL P ops Q g n (o :: l) K Ps := fun a w k s => by
  unfold wpList
  rw [if_neg (by rw [hw a k]; simp), hd]
  exact h _ w k s

theorem WL.split {d : Nat} {b : Bool} (hb : look K d = some (.bool b)) (ht : b = true → WL P ops Q g n l ((d, .bool true) :: K) Ps) (hf : b = false → WL P ops Q g n l ((d, .bool false) :: K) Ps) : WL P ops Q g n l K Ps := fun a w k s => by
  have kk : ∀ u v, look ((d, .bool b) :: K) u = some v → look K u = some v := fun u v e => by
    by_cases hd : d = u
    · subst hd; rw [look_cons_eq] at e; cases e; exact hb
    · rw [look_cons_ne hd] at e; exact e
  have k' : Kn n ((d, .bool b) :: K) a := ⟨k.size, k.defers, fun u v e => k.val u v (kk u v e)⟩
  cases b with
  | true => exact ht rfl a w k' s
  | false => exact hf rfl a w k' s
end

/-! ### Regions that draw their order: one walk in one good order serves all -/

/-- Operation e comes behind operation q in every order. -/
def waits (md : Region.Mode) (ops : Array Oper) : Nat → Nat → Nat → Bool
  | 0, _, _ => false
  | f + 1, e, q => match ops[e]? with
    | none => false
    | some o => o.after.any fun x => Region.binds md x && (x.on == q || waits md ops f x.on q)

/-- The order: 0: quiet, as soon as it may come up; 1: any other, where it alone may come up; 2: the same, but what the quiet ones read need not stand behind it. -/
def chk (md : Region.Mode) (ops : Array Oper) : List (Nat × Nat) → Array Bool → Bool
  | [], L => (Region.ready md ops L).isEmpty
  | (i, 0) :: r, L => Region.free md ops L i && (Region.ready md ops L).contains i && chk md ops r (L.setIfInBounds i true)
  | (i, _ + 1) :: r, L => (Region.ready md ops L == [i]) && chk md ops r (L.setIfInBounds i true)

def brkOf (l : List (Nat × Nat)) (i : Nat) : Bool := l.any fun x => x.1 == i && x.2 == 2
def qtOf (l : List (Nat × Nat)) (i : Nat) : Bool := l.any fun x => x.1 == i && x.2 == 0

/-- Every operation that breaks comes behind every quiet one. -/
def chkBrk (md : Region.Mode) (ops : Array Oper) (l : List (Nat × Nat)) : Bool :=
  l.all fun x => x.2 != 2 || l.all fun y => y.2 != 0 || waits md ops ops.size x.1 y.1

section
variable {P : Program} {ops : Array Oper} {Q : Exit → Act → World → Prop} {S : World → Prop} {md : Region.Mode} {brk : Nat → Bool}

/-- What is listed has what it waits for listed. -/
def DC (md : Region.Mode) (ops : Array Oper) (L : Array Bool) : Prop :=
  ∀ x o, ops[x]? = some o → L.getD x false = true → ∀ e ∈ o.after, Region.binds md e = true → L.getD e.on false = true

theorem getD_set_true {L : Array Bool} {i x : Nat} (h : L.getD x false = true) : (L.setIfInBounds i true).getD x false = true := by
  by_cases e : i = x
  · subst e
    by_cases hi : i < L.size
    · simp [hi]
    · simp [hi] at h
  · rw [getD_set_ne false e]; exact h

theorem DC.set {L : Array Bool} (d : DC md ops L) {i : Nat} (hi : i ∈ Region.ready md ops L) : DC md ops (L.setIfInBounds i true) := by
  intro x o ho hx e he hb
  by_cases ex : x = i
  · subst ex
    obtain ⟨_, o', ho', hall⟩ := mem_ready.1 hi
    rw [ho] at ho'; cases ho'
    exact getD_set_true (hall e he hb)
  · rw [getD_set_ne false (fun h => ex h.symm)] at hx
    exact getD_set_true (d x o ho hx e he hb)

theorem waits_spec {L : Array Bool} (d : DC md ops L) : ∀ (f e q : Nat), (e ∈ Region.ready md ops L ∨ L.getD e false = true) → waits md ops f e q = true → L.getD q false = true
  | 0, _, _, _, h => by simp [waits] at h
  | f + 1, e, q, he, h => by
    unfold waits at h
    split at h
    · cases h
    · rename_i o ho
      rw [Array.any_eq_true'] at h
      obtain ⟨x, hx, h⟩ := h
      simp only [Bool.and_eq_true, Bool.or_eq_true, beq_iff_eq] at h
      obtain ⟨hb, h⟩ := h
      have hl : L.getD x.on false = true := by
        rcases he with he | he
        · obtain ⟨_, o', ho', hall⟩ := mem_ready.1 he
          rw [ho] at ho'; cases ho'
          exact hall x hx hb
        · exact d e o ho he x hx hb
      rcases h with h | h
      · rw [← h]; exact hl
      · exact waits_spec d f x.on q (.inr hl) h

/-- Whatever order is picked from here on; behind what does not break, S holds. -/
def wpAnyX (P : Program) (md : Region.Mode) (ops : Array Oper) (Q : Exit → Act → World → Prop) (S : World → Prop) (brk : Nat → Bool) : Nat → Array Bool → Act → World → Prop
  | 0, L, a, w => Region.ready md ops L = [] ∧ Q .normal a w
  | f + 1, L, a, w => (Region.ready md ops L = [] → Q .normal a w) ∧
    ∀ i ∈ Region.ready md ops L, wpOp P ops Q i (fun a' w' => (brk i = false → S w') ∧ wpAnyX P md ops Q S brk f (L.setIfInBounds i true) a' w') a w

theorem wpAny_of_X : ∀ (f : Nat) (L : Array Bool) (a : Act) (w : World), wpAnyX P md ops Q S brk f L a w → wpAny P md ops Q f L a w
  | 0, _, _, _, h => h
  | f + 1, _, _, _, h => ⟨h.1, fun i hi => wpOp_mono (fun a' w' h' => wpAny_of_X f _ a' w' h'.2) (h.2 i hi)⟩

theorem wpAnyX_first {i : Nat} {oi : Oper} {v : Value} (hi : ops[i]? = some oi) (hsel : ∀ (j : Nat) (o : Oper) cs b, ops[j]? = some o → o.op ≠ .select cs b)
    (hQ : ∀ c a w, Q (.panic c) (a.put oi.dst v) w → Q (.panic c) a w) (hbrk : ∀ j, brk j = true → waits md ops ops.size j i = true) (hbi : brk i = false) :
    ∀ (f : Nat) (L : Array Bool) (a : Act) (w : World), DC md ops L →
      (∀ j oj, ops[j]? = some oj → j ≠ i → L.getD j true = false → (∀ e ∈ oj.after, Region.binds md e = true → e.on ≠ i) → oi.apart ops oj = true) →
      i ∈ Region.ready md ops L → YieldsIf P ops S oi v a → S w →
      wpAnyX P md ops Q S brk f (L.setIfInBounds i true) (a.put oi.dst v) w → wpAnyX P md ops Q S brk (f + 1) L a w := by
  intro f
  induction f with
  | zero =>
    intro L a w _ _ hr hy hS H
    refine ⟨fun h => (by rw [h] at hr; cases hr), fun j hj => ?_⟩
    by_cases hji : j = i
    · subst hji; exact hy.wpOp hi hS ⟨fun _ => hS, H⟩
    · have := ready_mono hj hji
      rw [H.1] at this
      cases this
  | succ f ih =>
    intro L a w hdc hfree hr hy hS H
    refine ⟨fun h => (by rw [h] at hr; cases hr), fun j hj => ?_⟩
    by_cases hji : j = i
    · subst hji; exact hy.wpOp hi hS ⟨fun _ => hS, H⟩
    · have h1 := H.2 j (ready_mono hj hji)
      obtain ⟨hjun, oj, hoj, hall⟩ := mem_ready.1 hj
      have hiun := (mem_ready.1 hr).1
      have hnotl : L.getD i false = false := by
        rcases Nat.lt_or_ge i L.size with h' | h'
        · simp [h'] at hiun ⊢; exact hiun
        · simp [Nat.not_lt.2 h']
      have hnot : ∀ e ∈ oj.after, Region.binds md e = true → e.on ≠ i := fun e he hb heq => by
        have h1 := hall e he hb
        rw [heq, hnotl] at h1
        cases h1
      have hbj : brk j = false := by
        cases hb : brk j with
        | false => rfl
        | true =>
          have := waits_spec hdc _ _ _ (.inl hj) (hbrk j hb)
          rw [hnotl] at this; cases this
      have h2 := wpOp_putIf hoj (hfree j oj hoj hji hjun hnot) (fun cs b => hsel i oi cs b hi) (fun cs b => hsel j oj cs b hoj) hQ hy h1
      have hfree' : ∀ k ok, ops[k]? = some ok → k ≠ i → (L.setIfInBounds j true).getD k true = false →
          (∀ e ∈ ok.after, Region.binds md e = true → e.on ≠ i) → oi.apart ops ok = true := fun k ok hk hki hun hno => by
        refine hfree k ok hk hki ?_ hno
        by_cases hjk : j = k
        · subst hjk; exact hjun
        · rw [getD_set_ne true hjk] at hun; exact hun
      refine wpOp_mono (fun a' w' h3 => ⟨h3.2.1, ih (L.setIfInBounds j true) a' w' (hdc.set hj) hfree' (ready_mono hr (Ne.symm hji)) h3.1 (h3.2.1 hbj) ?_⟩) h2
      rw [Array.setIfInBounds_comm _ _ hji]
      exact h3.2.2

end

def wpOrd (P : Program) (ops : Array Oper) (Q : Exit → Act → World → Prop) (S : World → Prop) : List (Nat × Nat) → Act → World → Prop
  | [], a, w => Q .normal a w
  | (i, 0) :: r, a, w => S w ∧ ∃ o v, ops[i]? = some o ∧ YieldsIf P ops S o v a ∧ wpOrd P ops Q S r (a.put o.dst v) w
  | (i, 1) :: r, a, w => wpOp P ops Q i (fun a' w' => S w' ∧ wpOrd P ops Q S r a' w') a w
  | (i, _ + 2) :: r, a, w => wpOp P ops Q i (fun a' w' => wpOrd P ops Q S r a' w') a w

/-- Q, a panic let out. -/
def NoP (Q : Exit → Act → World → Prop) : Exit → Act → World → Prop
  | .panic _, _, _ => False
  | e, a, w => Q e a w
theorem NoP.imp {Q : Exit → Act → World → Prop} : ∀ (e : Exit) (a : Act) (w : World), NoP Q e a w → Q e a w := fun e a w h => by
  cases e <;> first | exact h | exact (h : False).elim

theorem wpAnyX_of_ord {P : Program} {ops : Array Oper} {Q : Exit → Act → World → Prop} {S : World → Prop} {md : Region.Mode} (hs : Region.noSelect ops = true) (l0 : List (Nat × Nat)) (hb : chkBrk md ops l0 = true) (hu : (l0.all fun x => decide (x.2 ≤ 2)) = true) (hbq : (l0.all fun x => x.2 != 0 || !brkOf l0 x.1) = true) :
    ∀ (l : List (Nat × Nat)) (L : Array Bool) (a : Act) (w : World), (∀ x ∈ l, x ∈ l0) → DC md ops L → chk md ops l L = true → wpOrd P ops (NoP Q) S l a w → wpAnyX P md ops (NoP Q) S (brkOf l0) l.length L a w
  | [], L, a, w, _, _, hc, h => ⟨by simpa [chk] using hc, h⟩
  | (i, 0) :: r, L, a, w, hm, hd, hc, h => by
    simp only [chk, Bool.and_eq_true] at hc
    obtain ⟨⟨h1, h2⟩, h3⟩ := hc
    obtain ⟨hS, o, v, ho, hy, hr⟩ := h
    have hri : i ∈ Region.ready md ops L := by simpa using h2
    have hi0 : (i, 0) ∈ l0 := hm _ (by simp)
    refine wpAnyX_first ho (Region.noSelect_spec hs) (fun _ _ _ x => x) (fun j hj => ?_) ?_ _ L a w hd (Region.free_spec ho h1) hri hy hS (wpAnyX_of_ord hs l0 hb hu hbq r _ _ w (fun x hx => hm x (by simp [hx])) (hd.set hri) h3 hr)
    · unfold brkOf at hj
      rw [List.any_eq_true] at hj
      obtain ⟨x, hx, hx2⟩ := hj
      simp only [Bool.and_eq_true, beq_iff_eq] at hx2
      unfold chkBrk at hb
      have := List.all_eq_true.1 hb x hx
      simp only [hx2.2, bne_self_eq_false, Bool.false_or] at this
      have := List.all_eq_true.1 this _ hi0
      simpa [hx2.1] using this
    · have := List.all_eq_true.1 hbq _ hi0
      simpa using this
  | (i, 1) :: r, L, a, w, hm, hd, hc, h => by
    simp only [chk, Bool.and_eq_true, beq_iff_eq] at hc
    obtain ⟨h1, h3⟩ := hc
    have hri : i ∈ Region.ready md ops L := by rw [h1]; simp
    refine ⟨(fun h0 => by rw [h1] at h0; cases h0), fun j hj => ?_⟩
    obtain rfl : j = i := by rw [h1] at hj; simpa using hj
    exact wpOp_mono (fun a' w' ⟨x, y⟩ => ⟨fun _ => x, wpAnyX_of_ord hs l0 hb hu hbq r _ a' w' (fun x hx => hm x (by simp [hx])) (hd.set hri) h3 y⟩) h
  | (i, k + 2) :: r, L, a, w, hm, hd, hc, h => by
    simp only [chk, Bool.and_eq_true, beq_iff_eq] at hc
    obtain ⟨h1, h3⟩ := hc
    have hri : i ∈ Region.ready md ops L := by rw [h1]; simp
    have hi0 : (i, k + 2) ∈ l0 := hm _ (by simp)
    have hk : k = 0 := by
      have := List.all_eq_true.1 hu _ hi0
      simp at this; omega
    subst hk
    have hbi : brkOf l0 i = true := by
      unfold brkOf
      rw [List.any_eq_true]
      exact ⟨_, hi0, by simp⟩
    refine ⟨(fun h0 => by rw [h1] at h0; cases h0), fun j hj => ?_⟩
    obtain rfl : j = i := by rw [h1] at hj; simpa using hj
    exact wpOp_mono (fun a' w' y => ⟨fun e => (by rw [hbi] at e; cases e), wpAnyX_of_ord hs l0 hb hu hbq r _ a' w' (fun x hx => hm x (by simp [hx])) (hd.set hri) h3 y⟩) h

def WO (P : Program) (ops : Array Oper) (Q : Exit → Act → World → Prop) (g : World) (n : Nat) (Cs : List HProp) (l : List (Nat × Nat)) (K : List (Nat × Value)) (Ps : List HProp) : Prop :=
  ∀ a w, Kn n K a → Sat g w Ps → wpOrd P ops (NoP Q) (fun w => Sat g w Cs) l a w

theorem Sat.toCs {g w : World} {Cs Ps R : List HProp} (s : Sat g w Ps) (h : SelL Cs Ps R) : Sat g w Cs := ((s.sel h).perm List.perm_append_comm).drop

section
variable {P : Program} {ops : Array Oper} {Q : Exit → Act → World → Prop} {g : World} {n : Nat} {Cs : List HProp} {l : List (Nat × Nat)} {K : List (Nat × Value)} {Ps : List HProp} {i : Nat}

theorem WO.yld {o : Oper} {v : Value} {d : Nat} (ho : ops[i]? = some o) (hw : Wanted ops n K o) (y : Yld P g n o K Cs v) (hd : o.dst = some d) (hn : d < n) {R : List HProp} (hC : SelL Cs Ps R)
    (h : WO P ops Q g n Cs l ((d, v) :: K) Ps) : WO P ops Q g n Cs ((i, 0) :: l) K Ps := fun a w k s =>
  ⟨s.toCs hC, o, v, ho, .inl ⟨hw a k, fun w' s' => y a w' k s'⟩, by rw [hd]; exact h _ w (k.put hn v) s⟩

theorem WO.skip {o : Oper} {d : Nat} (ho : ops[i]? = some o) (hw : Unwanted ops n K o) (hd : o.dst = some d) (hn : d < n) {R : List HProp} (hC : SelL Cs Ps R)
    (h : WO P ops Q g n Cs l ((d, undef) :: K) Ps) : WO P ops Q g n Cs ((i, 0) :: l) K Ps := fun a w k s =>
  ⟨s.toCs hC, o, undef, ho, .inr ⟨hw a k, rfl⟩, by rw [hd]; exact h _ w (k.put hn _) s⟩

theorem WO.skipE {o : Oper} {d : Nat} (ho : ops[i]? = some o) (hw : Unwanted ops n K o) (hd : o.dst = some d) (hn : d < n) {R : List HProp} (hC : SelL Cs Ps R)
    (h : WO P ops Q g n Cs l ((d, undef) :: K) Ps) : WO P ops Q g n Cs ((i, 1) :: l) K Ps := fun a w k s => by
  show wpOp P ops (NoP Q) i _ a w
  unfold wpOp
  simp only [ho]
  rw [if_neg (by rw [hw a k]; simp), hd]
  exact ⟨s.toCs hC, h _ w (k.put hn _) s⟩

theorem WO.eff {o : Oper} {d : Nat} {ι : Type} {φ : ι → Prop} {val : ι → Value} {Ps' : ι → List HProp} (ho : ops[i]? = some o) (hw : Wanted ops n K o) (e : Eff P g n o K Ps ι φ val Ps') (hd : o.dst = some d) (hn : d < n)
    {R : ι → List HProp} (hC : ∀ x, SelL Cs (Ps' x) (R x))
    (h : ∀ x, φ x → WO P ops Q g n Cs l ((d, val x) :: K) (Ps' x)) : WO P ops Q g n Cs ((i, 1) :: l) K Ps := fun a w k s => by
  show wpOp P ops (NoP Q) i _ a w
  unfold wpOp
  simp only [ho]
  rw [if_pos (hw a k)]
  refine .inl (e a w k s _ _ fun x w' hx s' => ?_)
  rw [hd]
  exact ⟨s'.toCs (hC x), h x hx _ w' (k.put hn _) s'⟩

theorem WO.eff0 {o : Oper} {ι : Type} {φ : ι → Prop} {val : ι → Value} {Ps' : ι → List HProp} (ho : ops[i]? = some o) (hw : Wanted ops n K o) (e : Eff P g n o K Ps ι φ val Ps') (hd : o.dst = none)
    {R : ι → List HProp} (hC : ∀ x, SelL Cs (Ps' x) (R x))
    (h : ∀ x, φ x → WO P ops Q g n Cs l K (Ps' x)) : WO P ops Q g n Cs ((i, 1) :: l) K Ps := fun a w k s => by
  show wpOp P ops (NoP Q) i _ a w
  unfold wpOp
  simp only [ho]
  rw [if_pos (hw a k)]
  refine .inl (e a w k s _ _ fun x w' hx s' => ?_)
  rw [hd]
  exact ⟨s'.toCs (hC x), h x hx _ w' k s'⟩

theorem WO.brk {o : Oper} {d : Nat} {ι : Type} {φ : ι → Prop} {val : ι → Value} {Ps' : ι → List HProp} (ho : ops[i]? = some o) (hw : Wanted ops n K o) (e : Eff P g n o K Ps ι φ val Ps') (hd : o.dst = some d) (hn : d < n)
    (h : ∀ x, φ x → WO P ops Q g n Cs l ((d, val x) :: K) (Ps' x)) : WO P ops Q g n Cs ((i, 2) :: l) K Ps := fun a w k s => by
  show wpOp P ops (NoP Q) i _ a w
  unfold wpOp
  simp only [ho]
  rw [if_pos (hw a k)]
  refine .inl (e a w k s _ _ fun x w' hx s' => ?_)
  rw [hd]
  exact h x hx _ w' (k.put hn _) s'

theorem WO.brk0 {o : Oper} {ι : Type} {φ : ι → Prop} {val : ι → Value} {Ps' : ι → List HProp} (ho : ops[i]? = some o) (hw : Wanted ops n K o) (e : Eff P g n o K Ps ι φ val Ps') (hd : o.dst = none)
    (h : ∀ x, φ x → WO P ops Q g n Cs l K (Ps' x)) : WO P ops Q g n Cs ((i, 2) :: l) K Ps := fun a w k s => by
  show wpOp P ops (NoP Q) i _ a w
  unfold wpOp
  simp only [ho]
  rw [if_pos (hw a k)]
  refine .inl (e a w k s _ _ fun x w' hx s' => ?_)
  rw [hd]
  exact h x hx _ w' k s'

/-- A quiet one that comes behind the breaking ones: it is written as one of them. -/
theorem WO.brkY {o : Oper} {v : Value} {d : Nat} (ho : ops[i]? = some o) (hw : Wanted ops n K o) (y : Yld P g n o K Ps v) (hd : o.dst = some d) (hn : d < n)
    (h : WO P ops Q g n Cs l ((d, v) :: K) Ps) : WO P ops Q g n Cs ((i, 2) :: l) K Ps :=
  WO.brk ho hw y.eff hd hn (fun _ _ => h)

theorem WO.split {d : Nat} {b : Bool} (hb : look K d = some (.bool b)) (ht : b = true → WO P ops Q g n Cs l ((d, .bool true) :: K) Ps) (hf : b = false → WO P ops Q g n Cs l ((d, .bool false) :: K) Ps) : WO P ops Q g n Cs l K Ps := fun a w k s => by
  have kk : ∀ u v, look ((d, .bool b) :: K) u = some v → look K u = some v := fun u v e => by
    by_cases hd : d = u
    · subst hd; rw [look_cons_eq] at e; cases e; exact hb
    · rw [look_cons_ne hd] at e; exact e
  have k' : Kn n ((d, .bool b) :: K) a := ⟨k.size, k.defers, fun u v e => k.val u v (kk u v e)⟩
  cases b with
  | true => exact ht rfl a w k' s
  | false => exact hf rfl a w k' s
end

theorem SelL.self {α : Type} : ∀ {l : List α}, SelL l l []
  | [] => .nil
  | _ :: _ => .cons .here .self

theorem SelL.skip {α : Type} {B : α} {As l r : List α} (h : SelL As l r) : SelL As (B :: l) (B :: r) := by
  induction h with
  | nil => exact .nil
  | cons s _ ih => exact .cons (.there s) ih

/-! ### Code -/

def wpK (P : Program) (Q : Exit → Act → World → Prop) : List Code → Act → World → Prop
  | [] => Q .normal
  | c :: k => c.wp P (Exit.then (wpK P Q k) Q)

def WK (P : Program) (Q : Exit → Act → World → Prop) (g : World) (n : Nat) (ks : List Code) (K : List (Nat × Value)) (Ps : List HProp) : Prop :=
  ∀ a w, Kn n K a → Sat g w Ps → wpK P Q ks a w

section
variable {P : Program} {Q : Exit → Act → World → Prop} {g : World} {n : Nat} {k : List Code} {K : List (Nat × Value)} {Ps : List HProp}

theorem then_then (N N' : Act → World → Prop) (Q : Exit → Act → World → Prop) : Exit.then N (Exit.then N' Q) = Exit.then N Q := by
  funext e; cases e <;> rfl

theorem WK.seq {x y : Code} (h : WK P Q g n (x :: y :: k) K Ps) : WK P Q g n (.seq x y :: k) K Ps := fun a w ka s => by
  have := h a w ka s
  show (Code.seq x y).wp P _ a w
  refine wp_seq ?_
  rw [then_then]
  exact this

theorem WK.skip (h : WK P Q g n k K Ps) : WK P Q g n (.skip :: k) K Ps := fun a w ka s => wp_skip (h a w ka s)

theorem WK.region {id : Nat} {ops : Array Oper} (h : WL P ops (Exit.then (wpK P Q k) Q) g n ops.toList K Ps) : WK P Q g n (.region id ops false :: k) K Ps := fun a w ka s =>
  wp_region_list (h a w ka s)

theorem WL.done {ops : Array Oper} (h : WK P Q g n k K Ps) : WL P ops (Exit.then (wpK P Q k) Q) g n [] K Ps := h

theorem WO.done {ops : Array Oper} {Cs : List HProp} (h : WK P Q g n k K Ps) : WO P ops (Exit.then (wpK P Q k) Q) g n Cs [] K Ps := h

theorem WK.cond {c : Operand} {x y : Code} {b : Bool} (hb : ev K c = some (.bool b)) (ht : b = true → WK P Q g n (x :: k) K Ps) (hf : b = false → WK P Q g n (y :: k) K Ps) : WK P Q g n (.cond c x y :: k) K Ps := fun a w ka s =>
  wp_cond_split (ka.ev hb) (fun e => ht e a w ka s) (fun e => hf e a w ka s)

theorem WK.block {id : Nat} {c : Code} (h : WK P (Exit.inBlock id (Exit.then (wpK P Q k) Q)) g n [c] K Ps) : WK P Q g n (.block id c :: k) K Ps := fun a w ka s => by
  show (Code.block id c).wp P _ a w
  refine wp_block ?_
  refine Code.wp_mono (fun e a w x => ?_) (h a w ka s)
  cases e <;> exact x

/-- The end of a block's body. -/
theorem WK.endBlock {id : Nat} (h : WK P Q g n k K Ps) : WK P (Exit.inBlock id (Exit.then (wpK P Q k) Q)) g n [] K Ps := h

/-- Out of the block by its number. -/
theorem WK.exitHere {id : Nat} {k' : List Code} (h : WK P Q g n k K Ps) : WK P (Exit.inBlock id (Exit.then (wpK P Q k) Q)) g n (.exit id :: k') K Ps := fun a w ka s => by
  refine wp_exit ?_
  show Exit.inBlock id (Exit.then (wpK P Q k) Q) (.exit id) a w
  simp only [Exit.inBlock, if_true]
  exact h a w ka s

/-- What must hold where one leaves by number id. -/
def XQ (Q : Exit → Act → World → Prop) (g : World) (n : Nat) (id : Nat) (K : List (Nat × Value)) (Ps : List HProp) : Prop := ∀ a w, Kn n K a → Sat g w Ps → Q (.exit id) a w
theorem WK.exit {id : Nat} (h : XQ Q g n id K Ps) : WK P Q g n (.exit id :: k) K Ps := fun a w ka s => wp_exit (h a w ka s)
theorem XQ.here {id : Nat} (h : WK P Q g n k K Ps) : XQ (Exit.inBlock id (Exit.then (wpK P Q k) Q)) g n id K Ps := fun a w ka s => by
  simp only [Exit.inBlock, if_true]
  exact h a w ka s
theorem XQ.block {id id' : Nat} (hne : (id == id') = false) (h : XQ Q g n id K Ps) : XQ (Exit.inBlock id' Q) g n id K Ps := fun a w ka s => by
  have : id ≠ id' := by simpa using hne
  simp only [Exit.inBlock, if_neg this]
  exact h a w ka s
theorem XQ.then_ {id : Nat} {N : Act → World → Prop} (h : XQ Q g n id K Ps) : XQ (Exit.then N Q) g n id K Ps := h

/-- What must hold where one returns. -/
def RQ (Q : Exit → Act → World → Prop) (g : World) (n : Nat) (K : List (Nat × Value)) (Ps : List HProp) : Prop := ∀ a w, Kn n K a → Sat g w Ps → Q .ret a w
theorem WK.ret (h : RQ Q g n K Ps) : WK P Q g n (.ret :: k) K Ps := fun a w ka s => wp_ret (h a w ka s)
theorem RQ.block {id : Nat} (h : RQ Q g n K Ps) : RQ (Exit.inBlock id Q) g n K Ps := h
theorem RQ.then_ {N : Act → World → Prop} (h : RQ Q g n K Ps) : RQ (Exit.then N Q) g n K Ps := h
theorem RQ.body {fn : Func} {R : Ending → World → Prop} {v : Value} (hr : ∀ a, Kn n K a → ∀ w, Sat g w Ps → (results fn a.tmps).run P w = .ok v w) (h : ∀ w, Sat g w Ps → R (.returned v) w) : RQ (bodyPost P fn R) g n K Ps := fun a w ka s =>
  ⟨ka.defers, v, hr a ka w s, h w s⟩

theorem WK.drawn {id : Nat} {ops : Array Oper} (hm : P.follows .mixedOrders = true) (l : List (Nat × Nat)) (Cs : List HProp) (hs : Region.noSelect ops = true) (hl : l.length = ops.size)
    (hc : (chk .any ops l (Array.replicate ops.size false) && chkBrk .any ops l && (l.all fun x => decide (x.2 ≤ 2)) && (l.all fun x => x.2 != 0 || !brkOf l x.1)) = true) (h : WO P ops (Exit.then (wpK P Q k) Q) g n Cs l K Ps) : WK P Q g n (.region id ops true :: k) K Ps := fun a w ka s => by
  show (Code.region id ops true).wp P _ a w
  simp only [Bool.and_eq_true] at hc
  obtain ⟨⟨⟨h1, h2⟩, h3⟩, h4⟩ := hc
  refine Code.wp_mono NoP.imp ?_
  refine wp_region_any hm ?_
  rw [← hl]
  have s' := s.alike (Alike.drawn w (w.drawn + 1))
  refine wpAny_of_X (S := fun w => Sat g w Cs) (brk := brkOf l) _ _ _ _ (wpAnyX_of_ord hs l h2 h3 h4 l _ a _ (fun x hx => hx) ?_ (by rw [hl]; exact h1) (h a _ ka s'))
  intro x o ho hx
  exfalso
  simp [Array.getElem?_replicate] at hx
  split at hx <;> simp at hx

/-- A place where ways meet: what is known there is said anew. -/
theorem WK.cut {c : Code} {ι : Type} (φ : ι → Prop) (K' : ι → List (Nat × Value)) (Ps' : ι → List HProp) (rest : ∀ x, φ x → WK P Q g n k (K' x) (Ps' x)) (h : (∀ x, φ x → WK P Q g n k (K' x) (Ps' x)) → WK P Q g n (c :: k) K Ps) : WK P Q g n (c :: k) K Ps := h rest

theorem WK.cut2 {c c' : Code} {ι : Type} (φ : ι → Prop) (K' : ι → List (Nat × Value)) (Ps' : ι → List HProp) (rest : ∀ x, φ x → WK P Q g n k (K' x) (Ps' x)) (h : (∀ x, φ x → WK P Q g n k (K' x) (Ps' x)) → WK P Q g n (c :: c' :: k) K Ps) : WK P Q g n (c :: c' :: k) K Ps := h rest

theorem WK.goto {ι : Type} {φ : ι → Prop} {K' : ι → List (Nat × Value)} {Ps' : ι → List HProp} (J : ∀ x, φ x → WK P Q g n k (K' x) (Ps' x)) (x : ι) (hx : φ x) (hK : KK K (K' x)) {R : List HProp} (hP : SelL (Ps' x) Ps R) : WK P Q g n k K Ps := fun a w ka s =>
  J x hx a w (ka.keep hK) (s.toCs hP)

theorem WK.drawnQ {id : Nat} {ops : Array Oper} (hm : P.follows .mixedOrders = true) (l : List (Nat × Nat)) (hs : Region.noSelect ops = true) (hl : l.length = ops.size)
    (hc : (chk .any ops l (Array.replicate ops.size false) && chkBrk .any ops l && (l.all fun x => decide (x.2 ≤ 2)) && (l.all fun x => x.2 != 0 || !brkOf l x.1)) = true) (h : WO P ops (Exit.then (wpK P Q k) Q) g n Ps l K Ps) : WK P Q g n (.region id ops true :: k) K Ps :=
  WK.drawn hm l Ps hs hl hc h

theorem WK.keep {K' : List (Nat × Value)} (hk : KK K K') (h : WK P Q g n k K' Ps) : WK P Q g n k K Ps := fun a w ka s => h a w (ka.keep hk) s

/-- The pieces in another order, some of them struck. -/
theorem WK.mem {As R : List HProp} (hs : SelL As Ps R) (h : WK P Q g n k K As) : WK P Q g n k K Ps := fun a w ka s => h a w ka ((s.sel hs).perm (List.perm_append_comm) |>.drop)
theorem WK.memAll {As R : List HProp} (hs : SelL As Ps R) (h : WK P Q g n k K (As ++ R)) : WK P Q g n k K Ps := fun a w ka s => h a w ka (s.sel hs)

/-- Pieces are opened. -/
theorem WK.open_ {As R : List HProp} {ι : Type} {φ : ι → Prop} {m : ι → List HProp} (hs : SelL As Ps R) (f : ∀ h, sepL As h → ∃ x, φ x ∧ sepL (m x) h) (h : ∀ x, φ x → WK P Q g n k K (m x ++ R)) : WK P Q g n k K Ps := fun a w ka s => by
  obtain ⟨x, hx, s'⟩ := (s.sel hs).open_ f
  exact h x hx a w ka s'
theorem WK.shut {As Bs R : List HProp} (hs : SelL As Ps R) (f : ∀ h, sepL As h → sepL Bs h) (h : WK P Q g n k K (Bs ++ R)) : WK P Q g n k K Ps := fun a w ka s => h a w ka ((s.sel hs).conseq f)
theorem WK.sat {Ps' : List HProp} (f : ∀ w, Sat g w Ps → Sat g w Ps') (h : WK P Q g n k K Ps') : WK P Q g n k K Ps := fun a w ka s => h a w ka (f w s)

/-- A loop: the relation is a family of lists, the measure a number of the family's index. -/
theorem WK.loop {c : Code} {ι : Type} (φ : ι → Prop) (K' : ι → List (Nat × Value)) (Ps' : ι → List HProp) (μ : ι → Nat) (x₀ : ι) (h₀ : φ x₀) (hK : KK K (K' x₀)) {R : List HProp} (hP : SelL (Ps' x₀) Ps R)
    (round : ∀ x, φ x → ∀ N : Act → World → Prop, (∀ y, φ y → μ y < μ x → ∀ a w, Kn n (K' y) a → Sat g w (Ps' y) → N a w) → WK P (Exit.then N (Exit.then (wpK P Q k) Q)) g n [c] (K' x) (Ps' x)) : WK P Q g n (.loop c :: k) K Ps := fun a w ka s => by
  show (Code.loop c).wp P _ a w
  refine wp_loop_ghost (fun m a w => ∃ x, μ x = m ∧ φ x ∧ Kn n (K' x) a ∧ Sat g w (Ps' x)) (μ x₀) ⟨x₀, rfl, h₀, ka.keep hK, (s.sel hP).perm List.perm_append_comm |>.drop⟩ ?_
  rintro m a w ⟨x, rfl, hx, ka, s⟩
  have := round x hx (fun a' w' => ∃ m', m' < μ x ∧ ∃ y, μ y = m' ∧ φ y ∧ Kn n (K' y) a' ∧ Sat g w' (Ps' y)) (fun y hy hlt a w ka s => ⟨μ y, hlt, y, rfl, hy, ka, s⟩) a w ka s
  refine Code.wp_mono (fun e a w q => ?_) this
  cases e <;> exact q

/-- The end of a round. -/
theorem WK.next {ι : Type} {φ : ι → Prop} {K' : ι → List (Nat × Value)} {Ps' : ι → List HProp} {μ : ι → Nat} {x : ι} {N : Act → World → Prop} {Q2 : Exit → Act → World → Prop}
    (hN : ∀ y, φ y → μ y < μ x → ∀ a w, Kn n (K' y) a → Sat g w (Ps' y) → N a w) (y : ι) (hy : φ y) (hlt : μ y < μ x) (hK : KK K (K' y)) {R : List HProp} (hP : SelL (Ps' y) Ps R) : WK P (Exit.then N Q2) g n [] K Ps := fun a w ka s =>
  hN y hy hlt a w (ka.keep hK) ((s.sel hP).perm List.perm_append_comm |>.drop)

/-- The code that is walked last, its block's end behind it. -/
theorem WK.endThen {N : Act → World → Prop} (h : ∀ a w, Kn n K a → Sat g w Ps → N a w) : WK P (Exit.then N Q) g n [] K Ps := h
end

/-! ### Functions -/

/-- A call of f at args, where Pre is met: for some x with φ x it hands back val x, and Post x is met in Pre's place. -/
def Triple (P : Program) (f : FuncId) (args : Array Value) (Pre : List HProp) (ι : Type) (φ : ι → Prop) (val : ι → Value) (Post : ι → List HProp) : Prop :=
  ∀ g w F, Sat g w (Pre ++ F) → Calls P f args w (fun e w' => ∃ x, φ x ∧ e = .returned (val x) ∧ Sat g w' (Post x ++ F))

def numb : Nat → List Value → List (Nat × Value)
  | _, [] => []
  | i, v :: l => (i, v) :: numb (i + 1) l

theorem look_numb (l : List Value) : ∀ i d v, look (numb i l) d = some v → i ≤ d ∧ l[d - i]? = some v := by
  induction l with
  | nil => intro i d v h; cases h
  | cons u l ih =>
    intro i d v h
    by_cases e : i = d
    · subst e; rw [numb, look_cons_eq] at h; cases h; simp
    · rw [numb, look_cons_ne e] at h
      obtain ⟨h1, h2⟩ := ih _ _ _ h
      refine ⟨by omega, ?_⟩
      have : d - i = (d - (i + 1)) + 1 := by omega
      rw [this]; simpa using h2

theorem Triple.of_body {P : Program} {f : FuncId} {fn : Func} {c : Code} {args : List Value} {n : Nat} {Pre : List HProp} {ι : Type} {φ : ι → Prop} {val : ι → Value} {Post : ι → List HProp}
    (hf : P.funcs[f]? = some fn) (hb : fn.body = some c) (hn : fn.ntmps = n) (hl : args.length ≤ n)
    (h : ∀ g F, WK P (bodyPost P fn (fun e w' => ∃ x, φ x ∧ e = .returned (val x) ∧ Sat g w' (Post x ++ F))) g n [c] (numb 0 args) (Pre ++ F)) : Triple P f args.toArray Pre ι φ val Post := by
  intro g w F s
  refine calls_of_wp hf hb ?_
  have := h g F { tmps := args.toArray ++ Array.replicate (fn.ntmps - args.toArray.size) undef, defers := [] } w ⟨by simp [hn]; omega, rfl, fun d v e => ?_⟩ s
  · refine Code.wp_mono (fun e a w q => ?_) this
    cases e <;> exact q
  · obtain ⟨_, e⟩ := look_numb _ _ _ _ e
    have hd : d < args.length := by
      rcases Nat.lt_or_ge d args.length with k | k
      · exact k
      · simp [List.getElem?_eq_none k] at e
    show (args.toArray ++ _)[d]? = some v
    rw [Array.getElem?_append_left (by simpa using hd)]
    simpa using e

theorem Triple.mono {P : Program} {f : FuncId} {args : Array Value} {Pre Pre' : List HProp} {ι ι' : Type} {φ : ι → Prop} {val : ι → Value} {Post : ι → List HProp} {φ' : ι' → Prop} {val' : ι' → Value} {Post' : ι' → List HProp}
    (t : Triple P f args Pre ι φ val Post) (hp : ∀ g w F, Sat g w (Pre' ++ F) → Sat g w (Pre ++ F)) (hq : ∀ x, φ x → ∃ y, φ' y ∧ val x = val' y ∧ ∀ g w F, Sat g w (Post x ++ F) → Sat g w (Post' y ++ F)) : Triple P f args Pre' ι' φ' val' Post' := fun g w F s =>
  (t g w F (hp g w F s)).mono fun e w' ⟨x, hx, he, s'⟩ => by
    obtain ⟨y, hy, hv, hs⟩ := hq x hx
    exact ⟨y, hy, by rw [he, hv], hs g w' F s'⟩

theorem Kn.getD {n : Nat} {K : List (Nat × Value)} {a : Act} (h : Kn n K a) {t : Nat} {v : Value} (e : look K t = some v) : a.tmps.getD t undef = v := by
  have := h.val t v e
  simp [this]

theorem results0 {fn : Func} {Ps : List HProp} {g : World} {n : Nat} {K : List (Nat × Value)} {P : Program} (hr : fn.results = #[]) : ∀ a, Kn n K a → ∀ w, Sat g w Ps → (results fn a.tmps).run P w = .ok (.tuple #[]) w := fun a ka w _ => by
  simp [results, hr]

theorem results1 {fn : Func} {Ps : List HProp} {g : World} {n : Nat} {K : List (Nat × Value)} {P : Program} {t : Nat} {v : Value} (hr : fn.results = #[.tmp t]) (h : look K t = some v) : ∀ a, Kn n K a → ∀ w, Sat g w Ps → (results fn a.tmps).run P w = .ok v w := fun a ka w _ => by
  rw [← ka.getD h]
  simp [results, hr]

theorem results2 {fn : Func} {Ps : List HProp} {g : World} {n : Nat} {K : List (Nat × Value)} {P : Program} {t u : Nat} {v v' : Value} (hr : fn.results = #[.tmp t, .tmp u]) (h : look K t = some v) (h' : look K u = some v') : ∀ a, Kn n K a → ∀ w, Sat g w Ps → (results fn a.tmps).run P w = .ok (.tuple #[v, v']) w := fun a ka w _ => by
  rw [← ka.getD h, ← ka.getD h']
  simp [results, hr]

theorem results3 {fn : Func} {Ps : List HProp} {g : World} {n : Nat} {K : List (Nat × Value)} {P : Program} {t u s : Nat} {v v' v'' : Value} (hr : fn.results = #[.tmp t, .tmp u, .tmp s]) (h : look K t = some v) (h' : look K u = some v') (h'' : look K s = some v'') : ∀ a, Kn n K a → ∀ w, Sat g w Ps → (results fn a.tmps).run P w = .ok (.tuple #[v, v', v'']) w := fun a ka w _ => by
  rw [← ka.getD h, ← ka.getD h', ← ka.getD h'']
  simp [results, hr]

end Go.Sep
