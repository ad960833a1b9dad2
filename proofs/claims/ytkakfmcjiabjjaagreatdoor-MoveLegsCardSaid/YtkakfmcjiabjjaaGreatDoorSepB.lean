/- The slots of a frame as a list, and the walk over code: plain regions, regions that draw their order, tests, blocks, loops. -/
import Derived.Test.YtkakfmcjiabjjaaGreatDoorSepA
import Derived.OrdersHeld
import Derived.OrdersIn
import Derived.TacticsIn
import Derived.Deep.LoopGhost
import Derived.LoopIn
import Derived.RangeFuncRecord
import Derived.RangeFuncIn
import Derived.RangeFuncSeq
namespace Go.Sep
set_option linter.unusedVariables false
set_option linter.unusedSimpArgs false
set_option linter.unusedSectionVars false
set_option linter.unnecessarySimpa false
open Go

/-- Of what make the frame is that is walked: a round of a range over a function or not; and the blocks of the marks among its deferred calls. -/
class Rnd where
  ro : Option Nat
  ds : List Nat
instance rnd0 : Rnd := ⟨none, []⟩
def mark (b : Nat) : Deferred := { target := .collected b, args := #[] }
/-- The widest fence, for frames of that make. -/
abbrev WR (r : Rnd) : Fence := { fn := fun _ => True, depth := none, alive := false, round := r.ro }
section
variable [rn : Rnd]

def look : List (Nat × Value) → Nat → Option Value
  | [], _ => none
  | (d, v) :: r, k => match Nat.beq d k with
    | true => some v
    | false => look r k

/-- What is known of a frame's slots. -/
structure Kn (n : Nat) (K : List (Nat × Value)) (a : Act) : Prop where
  size : a.tmps.size = n
  defers : a.defers = rn.ds.map mark
  val : ∀ d v, look K d = some v → a.tmps[d]? = some v

def ev (K : List (Nat × Value)) : Operand → Option Value
  | .tmp t => look K t
  | .const v => some v
  | .global g => some (.pointer (some ⟨g, 0, none⟩))
  | .func f => some (.func (.func f) #[] #[])

theorem Kn.ev {n : Nat} {K : List (Nat × Value)} {a : Act} (h : Kn n K a) {x : Operand} {v : Value} (e : ev K x = some v) : a.eval x = v := by
  cases x with
  | tmp t =>
    have := h.val t v e
    simp [Act.eval, this]
  | const u => exact Option.some.inj e
  | global g => exact Option.some.inj e
  | func f => exact Option.some.inj e

omit rn in
theorem look_cons_ne {K : List (Nat × Value)} {d k : Nat} {v : Value} (h : d ≠ k) : look ((d, v) :: K) k = look K k := by
  have : Nat.beq d k = false := by
    cases e : Nat.beq d k with
    | false => rfl
    | true => exact absurd (Nat.eq_of_beq_eq_true e) h
  simp [look, this]

omit rn in
theorem look_cons_eq {K : List (Nat × Value)} {d : Nat} {v : Value} : look ((d, v) :: K) d = some v := by
  have : Nat.beq d d = true := by simp
  simp [look, this]

theorem Kn.put {n : Nat} {K : List (Nat × Value)} {a : Act} (h : Kn n K a) {d : Nat} (hd : d < n) (v : Value) : Kn n ((d, v) :: K) (a.put (some d) v) := by
  refine ⟨by simp [Act.put, h.size], by simp [Act.put, h.defers], fun k u hk => ?_⟩
  by_cases e : d = k
  · subst e
    rw [look_cons_eq] at hk
    cases hk
    simp [Act.put, h.size, hd]
  · rw [look_cons_ne e] at hk
    simp only [Act.put]
    rw [Array.getElem?_setIfInBounds_ne e]
    exact h.val k u hk

/-- Slot by slot: what the shorter list says, the longer one says. -/
inductive KK (K : List (Nat × Value)) : List (Nat × Value) → Prop
  | nil : KK K []
  | cons {d : Nat} {v : Value} {K' : List (Nat × Value)} : look K d = some v → KK K K' → KK K ((d, v) :: K')

theorem KK.look {K K' : List (Nat × Value)} (h : KK K K') : ∀ d v, look K' d = some v → look K d = some v := by
  induction h with
  | nil => intro d v h; cases h
  | @cons d v K' h1 _ ih =>
    intro k u hk
    by_cases e : d = k
    · subst e; rw [look_cons_eq] at hk; cases hk; exact h1
    · rw [look_cons_ne e] at hk; exact ih k u hk

theorem Kn.keep {n : Nat} {K K' : List (Nat × Value)} {a : Act} (h : Kn n K a) (k : KK K K') : Kn n K' a := ⟨h.size, h.defers, fun d v e => h.val d v (k.look d v e)⟩

/-! ### Which guarded operations are wanted -/

def Wanted (ops : Array Oper) (n : Nat) (K : List (Nat × Value)) (o : Oper) : Prop := ∀ a, Kn n K a → Region.wanted o (yielded ops a.tmps) = true
def Unwanted (ops : Array Oper) (n : Nat) (K : List (Nat × Value)) (o : Oper) : Prop := ∀ a, Kn n K a → Region.wanted o (yielded ops a.tmps) = false

theorem wanted_plain {ops : Array Oper} {n : Nat} {K : List (Nat × Value)} {o : Oper} (h : o.guard = none) : Wanted ops n K o := fun a _ => by simp [Region.wanted, h]

theorem yielded_kn {ops : Array Oper} {n : Nat} {K : List (Nat × Value)} {j d : Nat} {b : Bool} (hj : (ops[j]?).bind (·.dst) = some d) (hv : look K d = some (.bool b)) {a : Act} (k : Kn n K a) :
    yielded ops a.tmps j = some b := by
  simp [yielded, hj, k.val d _ hv]

theorem wanted_some {ops : Array Oper} {n : Nat} {K : List (Nat × Value)} {o : Oper} {j d : Nat} {b : Bool} (h : o.guard = some (j, b)) (hj : (ops[j]?).bind (·.dst) = some d) (hv : look K d = some (.bool b)) : Wanted ops n K o :=
  fun a k => by simp [Region.wanted, h, yielded_kn hj hv k]

theorem unwanted_some {ops : Array Oper} {n : Nat} {K : List (Nat × Value)} {o : Oper} {j d : Nat} {b c : Bool} (h : o.guard = some (j, b)) (hj : (ops[j]?).bind (·.dst) = some d) (hv : look K d = some (.bool c)) (hne : (c == b) = false) : Unwanted ops n K o :=
  fun a k => by
    simp only [Region.wanted, h, yielded_kn hj hv k]
    cases b <;> cases c <;> simp_all

/-- Guarded by a slot that holds no bool (a guard that was passed over). -/
theorem unwanted_undef {ops : Array Oper} {n : Nat} {K : List (Nat × Value)} {o : Oper} {j d : Nat} {b : Bool} (h : o.guard = some (j, b)) (hj : (ops[j]?).bind (·.dst) = some d) (hv : look K d = some undef) : Unwanted ops n K o :=
  fun a k => by
    have : yielded ops a.tmps j = none := by simp [yielded, hj, k.val d _ hv, undef]
    simp [Region.wanted, h, this]

/-! ### One operation -/

/-- It yields v, and does nothing else. -/
def Yld (P : Program) (g : World) (n : Nat) (o : Oper) (K : List (Nat × Value)) (Ps : List HProp) (v : Value) : Prop :=
  ∀ a w, Kn n K a → Sat g w Ps → (execOp a.eval o).run P w = .ok (.value v) w

/-- It does something: behind it, for some x with φ x, its slot holds val x, and the world meets Ps' x. -/
def Eff (P : Program) (g : World) (n : Nat) (o : Oper) (K : List (Nat × Value)) (Ps : List HProp) (ι : Type) (φ : ι → Prop) (val : ι → Value) (Ps' : ι → List HProp) : Prop :=
  ∀ a w, Kn n K a → Sat g w Ps → ∀ (next : Act → World → Prop) (Q : Exit → Act → World → Prop), (∀ x w', φ x → Sat g w' (Ps' x) → next (a.put o.dst (val x)) w') → o.wp P a w next Q

/-- The same inside the fence: it may call yield. -/
def EffR (P : Program) (g : World) (n : Nat) (o : Oper) (K : List (Nat × Value)) (Ps : List HProp) (ι : Type) (φ : ι → Prop) (val : ι → Value) (Ps' : ι → List HProp) : Prop :=
  ∀ a w, Kn n K a → Sat g w Ps → ∀ (next : Act → World → Prop) (Q : Exit → Act → World → Prop), (∀ x w', φ x → Sat g w' (Ps' x) → next (a.put o.dst (val x)) w') → o.wpIn (WR rn) 0 P a w next Q

def noDefer (o : Oper) : Bool := match o.op with
  | .defer _ => false
  | _ => true
omit rn in
theorem noDefer_spec {o : Oper} (h : noDefer o = true) : ∀ c, o.op ≠ .defer c := fun c e => by simp [noDefer, e] at h

omit rn in
theorem rowsIn_wide {n : Nat} {P : Program} {row : String} {args : Array Value} {w : World} {R : Value → World → Prop} (r : Rnd) (h : Rows P row args w R) : RowsIn (WR r) n P row args w R := fun c cs _ =>
  let ⟨v, w', x, s⟩ := h c cs; ⟨v, w', x, stepsIn_wide.2 s⟩
omit rn in
theorem callsIn_WR {n : Nat} {P : Program} {f : FuncId} {args : Array Value} {w : World} {R : Ending → World → Prop} (r : Rnd) : CallsIn (WR r) n P f args w R ↔ Calls P f args w R :=
  (callsIn_wide (n := n) (P := P) (f := f) (args := args) (w := w) (R := R))

theorem Oper.wp_in {P : Program} {o : Oper} {a : Act} {w : World} {next : Act → World → Prop} {Q : Exit → Act → World → Prop} (hd : noDefer o = true) (h : o.wp P a w next Q) : o.wpIn (WR rn) 0 P a w next Q := by
  refine ⟨fun _ _ => trivial, ?_⟩
  rw [Oper.semAt_eq _ _ _ (noDefer_spec hd)]
  unfold Oper.wp at h
  generalize (execOp a.eval o).run P w = x at *
  cases x with
  | ok y w' =>
    cases y <;> simp only [Oper.upon, Oper.uponIn] at h ⊢
    case value => exact h
    case skip => exact h
    case defer => exact h
    case enter => exact ⟨fun h => (by cases h), (callsIn_WR rn).2 h⟩
    case row => exact ⟨fun h => (by cases h), rowsIn_wide rn h⟩
  | halt y w' => cases y <;> simp only [Oper.upon, Oper.uponIn] at h ⊢ <;> exact h

theorem Eff.up {P : Program} {g : World} {n : Nat} {o : Oper} {K : List (Nat × Value)} {Ps : List HProp} {ι : Type} {φ : ι → Prop} {val : ι → Value} {Ps' : ι → List HProp} (e : Eff P g n o K Ps ι φ val Ps') (hd : noDefer o = true) : EffR P g n o K Ps ι φ val Ps' :=
  fun a w k s next Q h => Oper.wp_in hd (e a w k s next Q h)

omit rn in
theorem run_value_noDefer {P : Program} {o : Oper} {ρ : Operand → Value} {w w' : World} {v : Value} (h : (execOp ρ o).run P w = .ok (.value v) w') : noDefer o = true := by
  unfold noDefer
  split
  · rename_i c hc
    simp only [execOp, hc] at h
    rw [Sem.run_bind] at h
    cases hr : (resolve ρ c o.type).run P w <;> rw [hr] at h <;> simp [Result.andThen] at h
  · rfl

theorem Yld.wpIn {P : Program} {g : World} {n : Nat} {o : Oper} {K : List (Nat × Value)} {Ps : List HProp} {v : Value} (y : Yld P g n o K Ps v) {a : Act} {w : World} (k : Kn n K a) (s : Sat g w Ps) {next : Act → World → Prop} {Q : Exit → Act → World → Prop}
    (h : next (a.put o.dst v) w) : o.wpIn (WR rn) 0 P a w next Q := by
  refine ⟨fun _ _ => trivial, ?_⟩
  have e := y a w k s
  rw [Oper.semAt_eq _ _ _ (noDefer_spec (run_value_noDefer e)), e]
  exact h

theorem Yld.effR {P : Program} {g : World} {n : Nat} {o : Oper} {K : List (Nat × Value)} {Ps : List HProp} {v : Value} (y : Yld P g n o K Ps v) :
    EffR P g n o K Ps Unit (fun _ => True) (fun _ => v) (fun _ => Ps) := fun _ _ k s _ _ h => y.wpIn k s (h () _ trivial s)

theorem Yld.eff {P : Program} {g : World} {n : Nat} {o : Oper} {K : List (Nat × Value)} {Ps : List HProp} {v : Value} (y : Yld P g n o K Ps v) :
    Eff P g n o K Ps Unit (fun _ => True) (fun _ => v) (fun _ => Ps) := fun a w k s next Q h => by
  unfold Oper.wp
  rw [y a w k s]
  exact h () w trivial s

/-! ### Plain regions -/

def WL (P : Program) (ops : Array Oper) (Q : Exit → Act → World → Prop) (g : World) (n : Nat) (l : List Oper) (K : List (Nat × Value)) (Ps : List HProp) : Prop :=
  ∀ a w, Kn n K a → Sat g w Ps → wpListIn (WR rn) 0 P ops Q l a w

section
variable {P : Program} {ops : Array Oper} {Q : Exit → Act → World → Prop} {g : World} {n : Nat} {l : List Oper} {K : List (Nat × Value)} {Ps : List HProp}

theorem WL.yld {o : Oper} {v : Value} {d : Nat} (hw : Wanted ops n K o) (y : Yld P g n o K Ps v) (hd : o.dst = some d) (hn : d < n)
    (h : WL P ops Q g n l ((d, v) :: K) Ps) : WL P ops Q g n (o :: l) K Ps := fun a w k s => by
  unfold wpListIn
  rw [if_pos (hw a k)]
  refine y.wpIn k s ?_
  rw [hd]
  exact h _ w (k.put hn v) s

theorem WL.effR {o : Oper} {d : Nat} {ι : Type} {φ : ι → Prop} {val : ι → Value} {Ps' : ι → List HProp} (hw : Wanted ops n K o) (e : EffR P g n o K Ps ι φ val Ps') (hd : o.dst = some d) (hn : d < n)
    (h : ∀ x, φ x → WL P ops Q g n l ((d, val x) :: K) (Ps' x)) : WL P ops Q g n (o :: l) K Ps := fun a w k s => by
  unfold wpListIn
  rw [if_pos (hw a k)]
  refine e a w k s _ Q fun x w' hx s' => ?_
  rw [hd]
  exact h x hx _ w' (k.put hn _) s'

theorem WL.effR0 {o : Oper} {ι : Type} {φ : ι → Prop} {val : ι → Value} {Ps' : ι → List HProp} (hw : Wanted ops n K o) (e : EffR P g n o K Ps ι φ val Ps') (hd : o.dst = none)
    (h : ∀ x, φ x → WL P ops Q g n l K (Ps' x)) : WL P ops Q g n (o :: l) K Ps := fun a w k s => by
  unfold wpListIn
  rw [if_pos (hw a k)]
  refine e a w k s _ Q fun x w' hx s' => ?_
  rw [hd]
  exact h x hx _ w' k s'

theorem WL.eff {o : Oper} {d : Nat} {ι : Type} {φ : ι → Prop} {val : ι → Value} {Ps' : ι → List HProp} (hw : Wanted ops n K o) (e : Eff P g n o K Ps ι φ val Ps') (hd : o.dst = some d) (hn : d < n)
    (h : ∀ x, φ x → WL P ops Q g n l ((d, val x) :: K) (Ps' x)) (hf : noDefer o = true := by rfl) : WL P ops Q g n (o :: l) K Ps := WL.effR hw (e.up hf) hd hn h

theorem WL.eff0 {o : Oper} {ι : Type} {φ : ι → Prop} {val : ι → Value} {Ps' : ι → List HProp} (hw : Wanted ops n K o) (e : Eff P g n o K Ps ι φ val Ps') (hd : o.dst = none)
    (h : ∀ x, φ x → WL P ops Q g n l K (Ps' x)) (hf : noDefer o = true := by rfl) : WL P ops Q g n (o :: l) K Ps := WL.effR0 hw (e.up hf) hd h

theorem WL.skip {o : Oper} {d : Nat} (hw : Unwanted ops n K o) (hd : o.dst = some d) (hn : d < n)
    (h : WL P ops Q g n l ((d, undef) :: K) Ps) : WL P ops Q g n (o :: l) K Ps := fun a w k s => by
  unfold wpListIn
  rw [if_neg (by rw [hw a k]; simp), hd]
  exact ⟨fun _ _ => trivial, h _ w (k.put hn _) s⟩

theorem WL.skip0 {o : Oper} (hw : Unwanted ops n K o) (hd : o.dst = none) (h : WL P ops Q g n l K Ps) : WL P ops Q g n (o :: l) K Ps := fun a w k s => by
  unfold wpListIn
  rw [if_neg (by rw [hw a k]; simp), hd]
  exact ⟨fun _ _ => trivial, h _ w k s⟩

theorem WL.split {d : Nat} {b : Bool} (hb : look K d = some (.bool b)) (ht : b = true → WL P ops Q g n l ((d, .bool true) :: K) Ps) (hf : b = false → WL P ops Q g n l ((d, .bool false) :: K) Ps) : WL P ops Q g n l K Ps := fun a w k s => by
  have kk : ∀ u v, look ((d, .bool b) :: K) u = some v → look K u = some v := fun u v e => by
    by_cases hd : d = u
    · subst hd; rw [look_cons_eq] at e; cases e; exact hb
    · rw [look_cons_ne hd] at e; exact e
  have k' : Kn n ((d, .bool b) :: K) a := ⟨k.size, k.defers, fun u v e => k.val u v (kk u v e)⟩
  cases b with
  | true => exact ht rfl a w k' s
  | false => exact hf rfl a w k' s
end

/-! ### Regions that draw their order: one walk in one good order serves all -/

/-- Operation e comes behind operation q in every order. -/
def waits (md : Region.Mode) (ops : Array Oper) : Nat → Nat → Nat → Bool
  | 0, _, _ => false
  | f + 1, e, q => match ops[e]? with
    | none => false
    | some o => o.after.any fun x => Region.binds md x && (x.on == q || waits md ops f x.on q)

/-- The order: 0: quiet, as soon as it may come up; 1: any other, where it alone may come up; 2: the same, but what the quiet ones read need not stand behind it. -/
def chk (md : Region.Mode) (ops : Array Oper) : List (Nat × Nat) → Array Bool → Bool
  | [], L => (Region.ready md ops L).isEmpty
  | (i, 0) :: r, L => Region.free md ops L i && (Region.ready md ops L).contains i && chk md ops r (L.setIfInBounds i true)
  | (i, _ + 1) :: r, L => (Region.ready md ops L == [i]) && chk md ops r (L.setIfInBounds i true)

def brkOf (l : List (Nat × Nat)) (i : Nat) : Bool := l.any fun x => x.1 == i && x.2 == 2
def qtOf (l : List (Nat × Nat)) (i : Nat) : Bool := l.any fun x => x.1 == i && x.2 == 0

/-- Every operation that breaks comes behind every quiet one. -/
def chkBrk (md : Region.Mode) (ops : Array Oper) (l : List (Nat × Nat)) : Bool :=
  l.all fun x => x.2 != 2 || l.all fun y => y.2 != 0 || waits md ops ops.size x.1 y.1

section
variable {P : Program} {ops : Array Oper} {Q : Exit → Act → World → Prop} {S : World → Prop} {md : Region.Mode} {brk : Nat → Bool}

/-- What is listed has what it waits for listed. -/
def DC (md : Region.Mode) (ops : Array Oper) (L : Array Bool) : Prop :=
  ∀ x o, ops[x]? = some o → L.getD x false = true → ∀ e ∈ o.after, Region.binds md e = true → L.getD e.on false = true

omit rn in
theorem getD_set_true {L : Array Bool} {i x : Nat} (h : L.getD x false = true) : (L.setIfInBounds i true).getD x false = true := by
  by_cases e : i = x
  · subst e
    by_cases hi : i < L.size
    · simp [hi]
    · simp [hi] at h
  · rw [getD_set_ne false e]; exact h

theorem DC.set {L : Array Bool} (d : DC md ops L) {i : Nat} (hi : i ∈ Region.ready md ops L) : DC md ops (L.setIfInBounds i true) := by
  intro x o ho hx e he hb
  by_cases ex : x = i
  · subst ex
    obtain ⟨_, o', ho', hall⟩ := mem_ready.1 hi
    rw [ho] at ho'; cases ho'
    exact getD_set_true (hall e he hb)
  · rw [getD_set_ne false (fun h => ex h.symm)] at hx
    exact getD_set_true (d x o ho hx e he hb)

omit rn in
theorem waits_spec {L : Array Bool} (d : DC md ops L) : ∀ (f e q : Nat), (e ∈ Region.ready md ops L ∨ L.getD e false = true) → waits md ops f e q = true → L.getD q false = true
  | 0, _, _, _, h => by simp [waits] at h
  | f + 1, e, q, he, h => by
    unfold waits at h
    split at h
    · cases h
    · rename_i o ho
      rw [Array.any_eq_true'] at h
      obtain ⟨x, hx, h⟩ := h
      simp only [Bool.and_eq_true, Bool.or_eq_true, beq_iff_eq] at h
      obtain ⟨hb, h⟩ := h
      have hl : L.getD x.on false = true := by
        rcases he with he | he
        · obtain ⟨_, o', ho', hall⟩ := mem_ready.1 he
          rw [ho] at ho'; cases ho'
          exact hall x hx hb
        · exact d e o ho he x hx hb
      rcases h with h | h
      · rw [← h]; exact hl
      · exact waits_spec d f x.on q (.inr hl) h

/-- No operation of the region is a select or a defer. -/
def plainOps (ops : Array Oper) : Bool := ops.all fun o => match o.op with
  | .select .. => false
  | .defer .. => false
  | _ => true
omit rn in
theorem plainOps_spec (h : plainOps ops = true) {j : Nat} {o : Oper} (ho : ops[j]? = some o) : (∀ cs b, o.op ≠ .select cs b) ∧ ∀ c, o.op ≠ .defer c := by
  unfold plainOps at h
  rw [Array.all_eq_true'] at h
  have := h o (Array.mem_of_getElem? ho)
  constructor
  · intro cs b e; simp [e] at this
  · intro c e; simp [e] at this

abbrev wpOpR (P : Program) (ops : Array Oper) (Q : Exit → Act → World → Prop) (i : Nat) (K : Act → World → Prop) (a : Act) (w : World) : Prop := wpOpIn (WR rn) 0 P ops Q i K a w

theorem wpOpR_if {i : Nat} {o : Oper} {v : Value} {a : Act} (hi : ops[i]? = some o) (hy : YieldsIf P ops S o v a) (hd : ∀ c, o.op ≠ .defer c)
    {K : Act → World → Prop} {w : World} (hS : S w) (h : K (a.put o.dst v) w) : wpOpR P ops Q i K a w := by
  unfold wpOpR wpOpIn
  simp only [hi]
  rcases hy with ⟨hw, hv⟩ | ⟨hw, rfl⟩
  · rw [if_pos hw]
    refine ⟨fun _ _ => trivial, ?_⟩
    rw [Oper.semAt_eq _ _ _ hd, hv w hS]
    exact h
  · rw [if_neg (by simp [hw])]
    exact ⟨fun _ _ => trivial, h⟩

theorem wpOpR_put {j : Nat} {oi oj : Oper} {v : Value} (hj : ops[j]? = some oj) (hap : oi.apart ops oj = true)
    (hsi : ∀ cs b, oi.op ≠ .select cs b) (hsj : ∀ cs b, oj.op ≠ .select cs b) (hdj : ∀ c, oj.op ≠ .defer c)
    (hQ : ∀ c a w, Q (.panic c) (a.put oi.dst v) w → Q (.panic c) a w) {K : Act → World → Prop} {a : Act} {w : World}
    (hy : YieldsIf P ops S oi v a) (h : wpOpR P ops Q j K (a.put oi.dst v) w) :
    wpOpR P ops Q j (fun a' w' => YieldsIf P ops S oi v a' ∧ K (a'.put oi.dst v) w') a w := by
  obtain ⟨h1, h2, h3⟩ := Oper.apart_spec hap
  have keep : ∀ (a : Act), YieldsIf P ops S oi v a → ∀ u, YieldsIf P ops S oi v (a.put oj.dst u) := fun a hy u => hy.of_same (execOp_put oi hsi a oj.dst u h3) (wanted_put oi a oj.dst u h3)
  have swap : ∀ u {w'}, K ((a.put oi.dst v).put oj.dst u) w' → YieldsIf P ops S oi v (a.put oj.dst u) ∧ K ((a.put oj.dst u).put oi.dst v) w' := fun u _ x => ⟨keep a hy u, by rw [← Act.put_comm a v u h2]; exact x⟩
  unfold wpOpR wpOpIn at *
  simp only [hj] at *
  rw [wanted_put oj a oi.dst v h1] at h
  by_cases hw : Region.wanted oj (yielded ops a.tmps) = true
  · rw [if_pos hw] at h ⊢
    refine ⟨fun _ _ => trivial, ?_⟩
    have h := h.2
    rw [Oper.semAt_eq _ _ _ hdj] at h ⊢
    rw [execOp_put oj hsj a oi.dst v h1] at h
    cases hr : (execOp a.eval oj).run P w with
    | ok x w' =>
      rw [hr] at h
      cases x with
      | value u => exact swap u h
      | skip => exact swap _ h
      | defer d =>
        refine ⟨keep { a with defers := d :: a.defers } (hy.of_same rfl rfl) _, ?_⟩
        rw [← Act.put_comm _ v undef h2, ← Act.put_defers]
        exact h
      | enter f args =>
        refine ⟨h.1, h.2.mono fun e w'' he => ?_⟩
        cases e with
        | returned u => exact swap u he
        | panicked c => exact hQ _ _ _ he
        | outgrown => exact he
      | row row args => exact ⟨h.1, h.2.mono fun u w'' he => swap u he⟩
      | round l f tmps assign body =>
        refine ⟨h.1, h.2.mono fun e w'' he => ?_⟩
        cases e with
        | returned u => exact swap u he
        | panicked c => exact hQ _ _ _ he
        | outgrown => exact he
      | _ => exact (h : False).elim
    | halt x w' =>
      rw [hr] at h
      cases x with
      | panic u => exact hQ _ _ _ h
      | _ => exact h
  · rw [if_neg hw] at h ⊢
    exact ⟨fun _ _ => trivial, swap _ h.2⟩

/-- Whatever order is picked from here on; behind what does not break, S holds. -/
def wpAnyX (P : Program) (md : Region.Mode) (ops : Array Oper) (Q : Exit → Act → World → Prop) (S : World → Prop) (brk : Nat → Bool) : Nat → Array Bool → Act → World → Prop
  | 0, L, a, w => Region.ready md ops L = [] ∧ Q .normal a w
  | f + 1, L, a, w => (Region.ready md ops L = [] → Q .normal a w) ∧
    ∀ i ∈ Region.ready md ops L, wpOpR P ops Q i (fun a' w' => (brk i = false → S w') ∧ wpAnyX P md ops Q S brk f (L.setIfInBounds i true) a' w') a w

theorem wpAny_of_X : ∀ (f : Nat) (L : Array Bool) (a : Act) (w : World), wpAnyX P md ops Q S brk f L a w → wpAnyIn (WR rn) 0 P md ops Q f L a w
  | 0, _, _, _, h => h
  | f + 1, _, _, _, h => ⟨h.1, fun i hi => wpOpIn_mono (fun a' w' h' => wpAny_of_X f _ a' w' h'.2) (h.2 i hi)⟩

theorem wpAnyX_first {i : Nat} {oi : Oper} {v : Value} (hi : ops[i]? = some oi) (hsel : plainOps ops = true)
    (hQ : ∀ c a w, Q (.panic c) (a.put oi.dst v) w → Q (.panic c) a w) (hbrk : ∀ j, brk j = true → waits md ops ops.size j i = true) (hbi : brk i = false) :
    ∀ (f : Nat) (L : Array Bool) (a : Act) (w : World), DC md ops L →
      (∀ j oj, ops[j]? = some oj → j ≠ i → L.getD j true = false → (∀ e ∈ oj.after, Region.binds md e = true → e.on ≠ i) → oi.apart ops oj = true) →
      i ∈ Region.ready md ops L → YieldsIf P ops S oi v a → S w →
      wpAnyX P md ops Q S brk f (L.setIfInBounds i true) (a.put oi.dst v) w → wpAnyX P md ops Q S brk (f + 1) L a w := by
  intro f
  induction f with
  | zero =>
    intro L a w _ _ hr hy hS H
    refine ⟨fun h => (by rw [h] at hr; cases hr), fun j hj => ?_⟩
    by_cases hji : j = i
    · subst hji; exact wpOpR_if hi hy (plainOps_spec hsel hi).2 hS ⟨fun _ => hS, H⟩
    · have := ready_mono hj hji
      rw [H.1] at this
      cases this
  | succ f ih =>
    intro L a w hdc hfree hr hy hS H
    refine ⟨fun h => (by rw [h] at hr; cases hr), fun j hj => ?_⟩
    by_cases hji : j = i
    · subst hji; exact wpOpR_if hi hy (plainOps_spec hsel hi).2 hS ⟨fun _ => hS, H⟩
    · have h1 := H.2 j (ready_mono hj hji)
      obtain ⟨hjun, oj, hoj, hall⟩ := mem_ready.1 hj
      have hiun := (mem_ready.1 hr).1
      have hnotl : L.getD i false = false := by
        rcases Nat.lt_or_ge i L.size with h' | h'
        · simp [h'] at hiun ⊢; exact hiun
        · simp [Nat.not_lt.2 h']
      have hnot : ∀ e ∈ oj.after, Region.binds md e = true → e.on ≠ i := fun e he hb heq => by
        have h1 := hall e he hb
        rw [heq, hnotl] at h1
        cases h1
      have hbj : brk j = false := by
        cases hb : brk j with
        | false => rfl
        | true =>
          have := waits_spec hdc _ _ _ (.inl hj) (hbrk j hb)
          rw [hnotl] at this; cases this
      have h2 := wpOpR_put hoj (hfree j oj hoj hji hjun hnot) (plainOps_spec hsel hi).1 (plainOps_spec hsel hoj).1 (plainOps_spec hsel hoj).2 hQ hy h1
      have hfree' : ∀ k ok, ops[k]? = some ok → k ≠ i → (L.setIfInBounds j true).getD k true = false →
          (∀ e ∈ ok.after, Region.binds md e = true → e.on ≠ i) → oi.apart ops ok = true := fun k ok hk hki hun hno => by
        refine hfree k ok hk hki ?_ hno
        by_cases hjk : j = k
        · subst hjk; exact hjun
        · rw [getD_set_ne true hjk] at hun; exact hun
      refine wpOpIn_mono (fun a' w' h3 => ⟨h3.2.1, ih (L.setIfInBounds j true) a' w' (hdc.set hj) hfree' (ready_mono hr (Ne.symm hji)) h3.1 (h3.2.1 hbj) ?_⟩) h2
      rw [Array.setIfInBounds_comm _ _ hji]
      exact h3.2.2

end

def wpOrd (P : Program) (ops : Array Oper) (Q : Exit → Act → World → Prop) (S : World → Prop) : List (Nat × Nat) → Act → World → Prop
  | [], a, w => Q .normal a w
  | (i, 0) :: r, a, w => S w ∧ ∃ o v, ops[i]? = some o ∧ YieldsIf P ops S o v a ∧ wpOrd P ops Q S r (a.put o.dst v) w
  | (i, 1) :: r, a, w => wpOpR P ops Q i (fun a' w' => S w' ∧ wpOrd P ops Q S r a' w') a w
  | (i, _ + 2) :: r, a, w => wpOpR P ops Q i (fun a' w' => wpOrd P ops Q S r a' w') a w

theorem wpOrd_1 {P : Program} {ops : Array Oper} {Q : Exit → Act → World → Prop} {S : World → Prop} {i : Nat} {r : List (Nat × Nat)} {a : Act} {w : World} :
    wpOrd P ops Q S ((i, 1) :: r) a w = wpOpR P ops Q i (fun a' w' => S w' ∧ wpOrd P ops Q S r a' w') a w := by rw [wpOrd]
theorem wpOrd_2 {P : Program} {ops : Array Oper} {Q : Exit → Act → World → Prop} {S : World → Prop} {i : Nat} {r : List (Nat × Nat)} {a : Act} {w : World} :
    wpOrd P ops Q S ((i, 2) :: r) a w = wpOpR P ops Q i (fun a' w' => wpOrd P ops Q S r a' w') a w := by rw [wpOrd]

/-- Q, a panic let out. -/
def NoP (Q : Exit → Act → World → Prop) : Exit → Act → World → Prop
  | .panic _, _, _ => False
  | e, a, w => Q e a w
theorem NoP.imp {Q : Exit → Act → World → Prop} : ∀ (e : Exit) (a : Act) (w : World), NoP Q e a w → Q e a w := fun e a w h => by
  cases e <;> first | exact h | exact (h : False).elim

theorem wpAnyX_of_ord {P : Program} {ops : Array Oper} {Q : Exit → Act → World → Prop} {S : World → Prop} {md : Region.Mode} (hs : plainOps ops = true) (l0 : List (Nat × Nat)) (hb : chkBrk md ops l0 = true) (hu : (l0.all fun x => decide (x.2 ≤ 2)) = true) (hbq : (l0.all fun x => x.2 != 0 || !brkOf l0 x.1) = true) :
    ∀ (l : List (Nat × Nat)) (L : Array Bool) (a : Act) (w : World), (∀ x ∈ l, x ∈ l0) → DC md ops L → chk md ops l L = true → wpOrd P ops (NoP Q) S l a w → wpAnyX P md ops (NoP Q) S (brkOf l0) l.length L a w
  | [], L, a, w, _, _, hc, h => ⟨by simpa [chk] using hc, h⟩
  | (i, 0) :: r, L, a, w, hm, hd, hc, h => by
    simp only [chk, Bool.and_eq_true] at hc
    obtain ⟨⟨h1, h2⟩, h3⟩ := hc
    obtain ⟨hS, o, v, ho, hy, hr⟩ := h
    have hri : i ∈ Region.ready md ops L := by simpa using h2
    have hi0 : (i, 0) ∈ l0 := hm _ (by simp)
    refine wpAnyX_first ho (hs) (fun _ _ _ x => x) (fun j hj => ?_) ?_ _ L a w hd (Region.free_spec ho h1) hri hy hS (wpAnyX_of_ord hs l0 hb hu hbq r _ _ w (fun x hx => hm x (by simp [hx])) (hd.set hri) h3 hr)
    · unfold brkOf at hj
      rw [List.any_eq_true] at hj
      obtain ⟨x, hx, hx2⟩ := hj
      simp only [Bool.and_eq_true, beq_iff_eq] at hx2
      unfold chkBrk at hb
      have := List.all_eq_true.1 hb x hx
      simp only [hx2.2, bne_self_eq_false, Bool.false_or] at this
      have := List.all_eq_true.1 this _ hi0
      simpa [hx2.1] using this
    · have := List.all_eq_true.1 hbq _ hi0
      simpa using this
  | (i, 1) :: r, L, a, w, hm, hd, hc, h => by
    simp only [chk, Bool.and_eq_true, beq_iff_eq] at hc
    obtain ⟨h1, h3⟩ := hc
    have hri : i ∈ Region.ready md ops L := by rw [h1]; simp
    refine ⟨(fun h0 => by rw [h1] at h0; cases h0), fun j hj => ?_⟩
    obtain rfl : j = i := by rw [h1] at hj; simpa using hj
    exact wpOpIn_mono (fun a' w' ⟨x, y⟩ => ⟨fun _ => x, wpAnyX_of_ord hs l0 hb hu hbq r _ a' w' (fun x hx => hm x (by simp [hx])) (hd.set hri) h3 y⟩) (wpOrd_1 ▸ h)
  | (i, k + 2) :: r, L, a, w, hm, hd, hc, h => by
    simp only [chk, Bool.and_eq_true, beq_iff_eq] at hc
    obtain ⟨h1, h3⟩ := hc
    have hri : i ∈ Region.ready md ops L := by rw [h1]; simp
    have hi0 : (i, k + 2) ∈ l0 := hm _ (by simp)
    have hk : k = 0 := by
      have := List.all_eq_true.1 hu _ hi0
      simp at this; omega
    subst hk
    have hbi : brkOf l0 i = true := by
      unfold brkOf
      rw [List.any_eq_true]
      exact ⟨_, hi0, by simp⟩
    refine ⟨(fun h0 => by rw [h1] at h0; cases h0), fun j hj => ?_⟩
    obtain rfl : j = i := by rw [h1] at hj; simpa using hj
    exact wpOpIn_mono (fun a' w' y => ⟨fun e => (by rw [hbi] at e; cases e), wpAnyX_of_ord hs l0 hb hu hbq r _ a' w' (fun x hx => hm x (by simp [hx])) (hd.set hri) h3 y⟩) (by rw [wpOrd_2] at h; exact h)

def WO (P : Program) (ops : Array Oper) (Q : Exit → Act → World → Prop) (g : World) (n : Nat) (Cs : List HProp) (l : List (Nat × Nat)) (K : List (Nat × Value)) (Ps : List HProp) : Prop :=
  ∀ a w, Kn n K a → Sat g w Ps → wpOrd P ops (NoP Q) (fun w => Sat g w Cs) l a w

theorem Sat.toCs {g w : World} {Cs Ps R : List HProp} (s : Sat g w Ps) (h : SelL Cs Ps R) : Sat g w Cs := ((s.sel h).perm List.perm_append_comm).drop

section
variable {P : Program} {ops : Array Oper} {Q : Exit → Act → World → Prop} {g : World} {n : Nat} {Cs : List HProp} {l : List (Nat × Nat)} {K : List (Nat × Value)} {Ps : List HProp} {i : Nat}

theorem WO.yld {o : Oper} {v : Value} {d : Nat} (ho : ops[i]? = some o) (hw : Wanted ops n K o) (y : Yld P g n o K Cs v) (hd : o.dst = some d) (hn : d < n) {R : List HProp} (hC : SelL Cs Ps R)
    (h : WO P ops Q g n Cs l ((d, v) :: K) Ps) : WO P ops Q g n Cs ((i, 0) :: l) K Ps := fun a w k s =>
  ⟨s.toCs hC, o, v, ho, .inl ⟨hw a k, fun w' s' => y a w' k s'⟩, by rw [hd]; exact h _ w (k.put hn v) s⟩

theorem WO.skip {o : Oper} {d : Nat} (ho : ops[i]? = some o) (hw : Unwanted ops n K o) (hd : o.dst = some d) (hn : d < n) {R : List HProp} (hC : SelL Cs Ps R)
    (h : WO P ops Q g n Cs l ((d, undef) :: K) Ps) : WO P ops Q g n Cs ((i, 0) :: l) K Ps := fun a w k s =>
  ⟨s.toCs hC, o, undef, ho, .inr ⟨hw a k, rfl⟩, by rw [hd]; exact h _ w (k.put hn _) s⟩

theorem WO.skipE {o : Oper} {d : Nat} (ho : ops[i]? = some o) (hw : Unwanted ops n K o) (hd : o.dst = some d) (hn : d < n) {R : List HProp} (hC : SelL Cs Ps R)
    (h : WO P ops Q g n Cs l ((d, undef) :: K) Ps) : WO P ops Q g n Cs ((i, 1) :: l) K Ps := fun a w k s => by
  rw [wpOrd_1]
  unfold wpOpR wpOpIn
  simp only [ho]
  rw [if_neg (by rw [hw a k]; simp), hd]
  exact ⟨fun _ _ => trivial, s.toCs hC, h _ w (k.put hn _) s⟩

theorem WO.effR {o : Oper} {d : Nat} {ι : Type} {φ : ι → Prop} {val : ι → Value} {Ps' : ι → List HProp} (ho : ops[i]? = some o) (hw : Wanted ops n K o) (e : EffR P g n o K Ps ι φ val Ps') (hd : o.dst = some d) (hn : d < n)
    {R : ι → List HProp} (hC : ∀ x, SelL Cs (Ps' x) (R x))
    (h : ∀ x, φ x → WO P ops Q g n Cs l ((d, val x) :: K) (Ps' x)) : WO P ops Q g n Cs ((i, 1) :: l) K Ps := fun a w k s => by
  rw [wpOrd_1]
  unfold wpOpR wpOpIn
  simp only [ho]
  rw [if_pos (hw a k)]
  refine e a w k s _ _ fun x w' hx s' => ?_
  rw [hd]
  exact ⟨s'.toCs (hC x), h x hx _ w' (k.put hn _) s'⟩

theorem WO.eff {o : Oper} {d : Nat} {ι : Type} {φ : ι → Prop} {val : ι → Value} {Ps' : ι → List HProp} (ho : ops[i]? = some o) (hw : Wanted ops n K o) (e : Eff P g n o K Ps ι φ val Ps') (hd : o.dst = some d) (hn : d < n)
    {R : ι → List HProp} (hC : ∀ x, SelL Cs (Ps' x) (R x))
    (h : ∀ x, φ x → WO P ops Q g n Cs l ((d, val x) :: K) (Ps' x)) (hf : noDefer o = true := by rfl) : WO P ops Q g n Cs ((i, 1) :: l) K Ps := WO.effR ho hw (e.up hf) hd hn hC h

theorem WO.effR0 {o : Oper} {ι : Type} {φ : ι → Prop} {val : ι → Value} {Ps' : ι → List HProp} (ho : ops[i]? = some o) (hw : Wanted ops n K o) (e : EffR P g n o K Ps ι φ val Ps') (hd : o.dst = none)
    {R : ι → List HProp} (hC : ∀ x, SelL Cs (Ps' x) (R x))
    (h : ∀ x, φ x → WO P ops Q g n Cs l K (Ps' x)) : WO P ops Q g n Cs ((i, 1) :: l) K Ps := fun a w k s => by
  rw [wpOrd_1]
  unfold wpOpR wpOpIn
  simp only [ho]
  rw [if_pos (hw a k)]
  refine e a w k s _ _ fun x w' hx s' => ?_
  rw [hd]
  exact ⟨s'.toCs (hC x), h x hx _ w' k s'⟩

theorem WO.eff0 {o : Oper} {ι : Type} {φ : ι → Prop} {val : ι → Value} {Ps' : ι → List HProp} (ho : ops[i]? = some o) (hw : Wanted ops n K o) (e : Eff P g n o K Ps ι φ val Ps') (hd : o.dst = none)
    {R : ι → List HProp} (hC : ∀ x, SelL Cs (Ps' x) (R x))
    (h : ∀ x, φ x → WO P ops Q g n Cs l K (Ps' x)) (hf : noDefer o = true := by rfl) : WO P ops Q g n Cs ((i, 1) :: l) K Ps := WO.effR0 ho hw (e.up hf) hd hC h

theorem WO.brkR {o : Oper} {d : Nat} {ι : Type} {φ : ι → Prop} {val : ι → Value} {Ps' : ι → List HProp} (ho : ops[i]? = some o) (hw : Wanted ops n K o) (e : EffR P g n o K Ps ι φ val Ps') (hd : o.dst = some d) (hn : d < n)
    (h : ∀ x, φ x → WO P ops Q g n Cs l ((d, val x) :: K) (Ps' x)) : WO P ops Q g n Cs ((i, 2) :: l) K Ps := fun a w k s => by
  rw [wpOrd_2]
  unfold wpOpR wpOpIn
  simp only [ho]
  rw [if_pos (hw a k)]
  refine e a w k s _ _ fun x w' hx s' => ?_
  rw [hd]
  exact h x hx _ w' (k.put hn _) s'

theorem WO.brk {o : Oper} {d : Nat} {ι : Type} {φ : ι → Prop} {val : ι → Value} {Ps' : ι → List HProp} (ho : ops[i]? = some o) (hw : Wanted ops n K o) (e : Eff P g n o K Ps ι φ val Ps') (hd : o.dst = some d) (hn : d < n)
    (h : ∀ x, φ x → WO P ops Q g n Cs l ((d, val x) :: K) (Ps' x)) (hf : noDefer o = true := by rfl) : WO P ops Q g n Cs ((i, 2) :: l) K Ps := WO.brkR ho hw (e.up hf) hd hn h

theorem WO.brkR0 {o : Oper} {ι : Type} {φ : ι → Prop} {val : ι → Value} {Ps' : ι → List HProp} (ho : ops[i]? = some o) (hw : Wanted ops n K o) (e : EffR P g n o K Ps ι φ val Ps') (hd : o.dst = none)
    (h : ∀ x, φ x → WO P ops Q g n Cs l K (Ps' x)) : WO P ops Q g n Cs ((i, 2) :: l) K Ps := fun a w k s => by
  rw [wpOrd_2]
  unfold wpOpR wpOpIn
  simp only [ho]
  rw [if_pos (hw a k)]
  refine e a w k s _ _ fun x w' hx s' => ?_
  rw [hd]
  exact h x hx _ w' k s'

/-- A quiet one that comes behind the breaking ones: it is written as one of them. -/
theorem WO.brkY {o : Oper} {v : Value} {d : Nat} (ho : ops[i]? = some o) (hw : Wanted ops n K o) (y : Yld P g n o K Ps v) (hd : o.dst = some d) (hn : d < n)
    (h : WO P ops Q g n Cs l ((d, v) :: K) Ps) : WO P ops Q g n Cs ((i, 2) :: l) K Ps :=
  WO.brkR ho hw y.effR hd hn (fun _ _ => h)

theorem WO.brk0 {o : Oper} {ι : Type} {φ : ι → Prop} {val : ι → Value} {Ps' : ι → List HProp} (ho : ops[i]? = some o) (hw : Wanted ops n K o) (e : Eff P g n o K Ps ι φ val Ps') (hd : o.dst = none)
    (h : ∀ x, φ x → WO P ops Q g n Cs l K (Ps' x)) (hf : noDefer o = true := by rfl) : WO P ops Q g n Cs ((i, 2) :: l) K Ps := WO.brkR0 ho hw (e.up hf) hd h

theorem WO.split {d : Nat} {b : Bool} (hb : look K d = some (.bool b)) (ht : b = true → WO P ops Q g n Cs l ((d, .bool true) :: K) Ps) (hf : b = false → WO P ops Q g n Cs l ((d, .bool false) :: K) Ps) : WO P ops Q g n Cs l K Ps := fun a w k s => by
  have kk : ∀ u v, look ((d, .bool b) :: K) u = some v → look K u = some v := fun u v e => by
    by_cases hd : d = u
    · subst hd; rw [look_cons_eq] at e; cases e; exact hb
    · rw [look_cons_ne hd] at e; exact e
  have k' : Kn n ((d, .bool b) :: K) a := ⟨k.size, k.defers, fun u v e => k.val u v (kk u v e)⟩
  cases b with
  | true => exact ht rfl a w k' s
  | false => exact hf rfl a w k' s
end

theorem SelL.self {α : Type} : ∀ {l : List α}, SelL l l []
  | [] => .nil
  | _ :: _ => .cons .here .self

theorem SelL.skip {α : Type} {B : α} {As l r : List α} (h : SelL As l r) : SelL As (B :: l) (B :: r) := by
  induction h with
  | nil => exact .nil
  | cons s _ ih => exact .cons (.there s) ih

/-! ### Code -/

/-- Several pieces as one. -/
def pack (l : List HProp) : HProp := sepL l
theorem Sat.unpack {g w : World} {l Ps : List HProp} (s : Sat g w (pack l :: Ps)) : Sat g w (l ++ Ps) :=
  Sat.conseq (l := [pack l]) (m := l) s fun h x => by
    obtain ⟨h1, h2, a, b, _, rfl⟩ := x
    have e : h2 = Hp.empty := b
    subst e
    rw [Hp.union_empty]
    exact a
theorem Sat.pack {g w : World} {l Ps : List HProp} (s : Sat g w (l ++ Ps)) : Sat g w (pack l :: Ps) :=
  Sat.conseq (l := l) (m := [Sep.pack l]) s fun h x => ⟨h, Hp.empty, x, rfl, Hp.disj_symm (Hp.empty_disj h), (Hp.union_empty h).symm⟩
/-- The blocks that marks speak of. -/
def marksP (bs : List Nat) : HProp := Sep.pack (bs.map fun b => held true b (.deferred (some [])))

def wpK (P : Program) (Q : Exit → Act → World → Prop) : List Code → Act → World → Prop
  | [] => Q .normal
  | c :: k => c.wpIn (WR rn) 0 P (Exit.then (wpK P Q k) Q)

def WK (P : Program) (Q : Exit → Act → World → Prop) (g : World) (n : Nat) (ks : List Code) (K : List (Nat × Value)) (Ps : List HProp) : Prop :=
  ∀ a w, Kn n K a → Sat g w Ps → wpK P Q ks a w

section
variable {P : Program} {Q : Exit → Act → World → Prop} {g : World} {n : Nat} {k : List Code} {K : List (Nat × Value)} {Ps : List HProp}

theorem then_then (N N' : Act → World → Prop) (Q : Exit → Act → World → Prop) : Exit.then N (Exit.then N' Q) = Exit.then N Q := by
  funext e; cases e <;> rfl

theorem WK.seq {x y : Code} (h : WK P Q g n (x :: y :: k) K Ps) : WK P Q g n (.seq x y :: k) K Ps := fun a w ka s => by
  have := h a w ka s
  show (Code.seq x y).wpIn (WR rn) 0 P _ a w
  refine wpIn_seq ?_
  rw [then_then]
  exact this

theorem WK.skip (h : WK P Q g n k K Ps) : WK P Q g n (.skip :: k) K Ps := fun a w ka s => wpIn_skip (h a w ka s)

theorem WK.region {id : Nat} {ops : Array Oper} (h : WL P ops (Exit.then (wpK P Q k) Q) g n ops.toList K Ps) : WK P Q g n (.region id ops false :: k) K Ps := fun a w ka s =>
  wpIn_region_list (h a w ka s)

theorem WL.done {ops : Array Oper} (h : WK P Q g n k K Ps) : WL P ops (Exit.then (wpK P Q k) Q) g n [] K Ps := h

theorem WO.done {ops : Array Oper} {Cs : List HProp} (h : WK P Q g n k K Ps) : WO P ops (Exit.then (wpK P Q k) Q) g n Cs [] K Ps := h

theorem WK.cond {c : Operand} {x y : Code} {b : Bool} (hb : ev K c = some (.bool b)) (ht : b = true → WK P Q g n (x :: k) K Ps) (hf : b = false → WK P Q g n (y :: k) K Ps) : WK P Q g n (.cond c x y :: k) K Ps := fun a w ka s =>
  wpIn_cond_split (ka.ev hb) (fun e => ht e a w ka s) (fun e => hf e a w ka s)

theorem WK.block {id : Nat} {c : Code} (h : WK P (Exit.inBlock id (Exit.then (wpK P Q k) Q)) g n [c] K Ps) : WK P Q g n (.block id c :: k) K Ps := fun a w ka s => by
  show (Code.block id c).wpIn (WR rn) 0 P _ a w
  refine wpIn_block ?_
  refine Code.wpIn_mono (fun e a w x => ?_) (h a w ka s)
  cases e <;> exact x

/-- The end of a block's body. -/
theorem WK.endBlock {id : Nat} (h : WK P Q g n k K Ps) : WK P (Exit.inBlock id (Exit.then (wpK P Q k) Q)) g n [] K Ps := h

/-- Out of the block by its number. -/
theorem WK.exitHere {id : Nat} {k' : List Code} (h : WK P Q g n k K Ps) : WK P (Exit.inBlock id (Exit.then (wpK P Q k) Q)) g n (.exit id :: k') K Ps := fun a w ka s => by
  refine wpIn_exit ?_
  show Exit.inBlock id (Exit.then (wpK P Q k) Q) (.exit id) a w
  simp only [Exit.inBlock, if_true]
  exact h a w ka s

/-- What must hold where one leaves by number id. -/
def XQ (Q : Exit → Act → World → Prop) (g : World) (n : Nat) (id : Nat) (K : List (Nat × Value)) (Ps : List HProp) : Prop := ∀ a w, Kn n K a → Sat g w Ps → Q (.exit id) a w
theorem WK.exit {id : Nat} (h : XQ Q g n id K Ps) : WK P Q g n (.exit id :: k) K Ps := fun a w ka s => wpIn_exit (h a w ka s)
theorem XQ.here {id : Nat} (h : WK P Q g n k K Ps) : XQ (Exit.inBlock id (Exit.then (wpK P Q k) Q)) g n id K Ps := fun a w ka s => by
  simp only [Exit.inBlock, if_true]
  exact h a w ka s
theorem XQ.block {id id' : Nat} (hne : (id == id') = false) (h : XQ Q g n id K Ps) : XQ (Exit.inBlock id' Q) g n id K Ps := fun a w ka s => by
  have : id ≠ id' := by simpa using hne
  simp only [Exit.inBlock, if_neg this]
  exact h a w ka s
theorem XQ.then_ {id : Nat} {N : Act → World → Prop} (h : XQ Q g n id K Ps) : XQ (Exit.then N Q) g n id K Ps := h

/-- What must hold where one returns. -/
def RQ (Q : Exit → Act → World → Prop) (g : World) (n : Nat) (K : List (Nat × Value)) (Ps : List HProp) : Prop := ∀ a w, Kn n K a → Sat g w Ps → Q .ret a w
theorem WK.ret (h : RQ Q g n K Ps) : WK P Q g n (.ret :: k) K Ps := fun a w ka s => wpIn_ret (h a w ka s)
theorem RQ.block {id : Nat} (h : RQ Q g n K Ps) : RQ (Exit.inBlock id Q) g n K Ps := h
theorem RQ.then_ {N : Act → World → Prop} (h : RQ Q g n K Ps) : RQ (Exit.then N Q) g n K Ps := h
theorem RQ.body {fn : Func} {R : Ending → World → Prop} {v : Value} (hr : ∀ a, Kn n K a → ∀ w, Sat g w Ps → (results fn a.tmps).run P w = .ok v w) (h : ∀ w, Sat g w Ps → R (.returned v) w) (hds : rn.ds = [] := by rfl) : RQ (bodyPostM Fence.wide 0 P fn R) g n K Ps := fun a w ka s => by
  show LeavesInM Fence.wide 0 P fn a.tmps R a.defers .returning w
  rw [ka.defers, hds]
  exact ⟨v, hr a ka w s, h w s⟩

/-- The end of a body without a return. -/
theorem WK.fall {fn : Func} {R : Ending → World → Prop} {v : Value} (hr : ∀ a, Kn n K a → ∀ w, Sat g w Ps → (results fn a.tmps).run P w = .ok v w) (h : ∀ w, Sat g w Ps → R (.returned v) w) (hds : rn.ds = [] := by rfl) : WK P (bodyPostM Fence.wide 0 P fn R) g n [] K Ps := fun a w ka s => RQ.body hr h hds a w ka s

omit rn in
theorem leaves_marks {fn : Func} {R : Ending → World → Prop} {tmps : Array Value} {Rm : List HProp} (h : ∀ w, Sat g w Rm → ∃ v, (results fn tmps).run P w = .ok v w ∧ R (.returned v) w) :
    ∀ (bs : List Nat) (w : World), Sat g w (bs.map (fun b => held true b (.deferred (some []))) ++ Rm) → LeavesInM Fence.wide 0 P fn tmps R (bs.map mark) .returning w
  | [], w, s => h w s
  | b :: bs, w, s => by
    refine ⟨by simp, .inl ⟨b, _, rfl, run_takeDeferred s.get, leaves_marks h bs _ ?_⟩⟩
    have s' : Sat g (w.putObj b (.deferred none)) (held true b (.deferred none) :: (bs.map (fun b => held true b (.deferred (some []))) ++ Rm)) :=
      Sat.put (w := w) (o := .deferred (some [])) s rfl rfl rfl (by simp) (World.putObj_heap_same (Sat.lt (p := true) (o := .deferred (some [])) s)) (fun c hc => World.putObj_heap_other hc)
    exact Sat.drop (l := [held true b (.deferred none)]) s'

theorem RQ.bodyM {fn : Func} {R : Ending → World → Prop} {v : Value} {Rm : List HProp} (hm : Sel (marksP rn.ds) Ps Rm) (hr : ∀ a, Kn n K a → ∀ w, Sat g w Rm → (results fn a.tmps).run P w = .ok v w) (h : ∀ w, Sat g w Rm → R (.returned v) w) : RQ (bodyPostM Fence.wide 0 P fn R) g n K Ps := fun a w ka s => by
  show LeavesInM Fence.wide 0 P fn a.tmps R a.defers .returning w
  rw [ka.defers]
  refine leaves_marks (fun w s => ⟨v, hr a ka w s, h w s⟩) _ _ ?_
  exact Sat.unpack (s.sel1 hm)
theorem WK.fallM {fn : Func} {R : Ending → World → Prop} {v : Value} {Rm : List HProp} (hm : Sel (marksP rn.ds) Ps Rm) (hr : ∀ a, Kn n K a → ∀ w, Sat g w Rm → (results fn a.tmps).run P w = .ok v w) (h : ∀ w, Sat g w Rm → R (.returned v) w) : WK P (bodyPostM Fence.wide 0 P fn R) g n [] K Ps := fun a w ka s => RQ.bodyM hm hr h a w ka s

theorem WK.drawn {id : Nat} {ops : Array Oper} (hm : P.follows .mixedOrders = true) (l : List (Nat × Nat)) (Cs : List HProp) (hs : plainOps ops = true) (hl : l.length = ops.size)
    (hc : (chk .any ops l (Array.replicate ops.size false) && chkBrk .any ops l && (l.all fun x => decide (x.2 ≤ 2)) && (l.all fun x => x.2 != 0 || !brkOf l x.1)) = true) (h : WO P ops (Exit.then (wpK P Q k) Q) g n Cs l K Ps) : WK P Q g n (.region id ops true :: k) K Ps := fun a w ka s => by
  show (Code.region id ops true).wpIn (WR rn) 0 P _ a w
  simp only [Bool.and_eq_true] at hc
  obtain ⟨⟨⟨h1, h2⟩, h3⟩, h4⟩ := hc
  refine Code.wpIn_mono NoP.imp ?_
  refine wpIn_region_any hm ?_
  rw [← hl]
  have s' := s.alike (Alike.drawn w (w.drawn + 1))
  refine wpAny_of_X (S := fun w => Sat g w Cs) (brk := brkOf l) _ _ _ _ (wpAnyX_of_ord hs l h2 h3 h4 l _ a _ (fun x hx => hx) ?_ (by rw [hl]; exact h1) (h a _ ka s'))
  intro x o ho hx
  exfalso
  simp [Array.getElem?_replicate] at hx
  split at hx <;> simp at hx

/-- A place where ways meet: what is known there is said anew. -/
theorem WK.cut {c : Code} {ι : Type} (φ : ι → Prop) (K' : ι → List (Nat × Value)) (Ps' : ι → List HProp) (rest : ∀ x, φ x → WK P Q g n k (K' x) (Ps' x)) (h : (∀ x, φ x → WK P Q g n k (K' x) (Ps' x)) → WK P Q g n (c :: k) K Ps) : WK P Q g n (c :: k) K Ps := h rest

theorem WK.cut2 {c c' : Code} {ι : Type} (φ : ι → Prop) (K' : ι → List (Nat × Value)) (Ps' : ι → List HProp) (rest : ∀ x, φ x → WK P Q g n k (K' x) (Ps' x)) (h : (∀ x, φ x → WK P Q g n k (K' x) (Ps' x)) → WK P Q g n (c :: c' :: k) K Ps) : WK P Q g n (c :: c' :: k) K Ps := h rest

theorem WK.goto {ι : Type} {φ : ι → Prop} {K' : ι → List (Nat × Value)} {Ps' : ι → List HProp} (J : ∀ x, φ x → WK P Q g n k (K' x) (Ps' x)) (x : ι) (hx : φ x) (hK : KK K (K' x)) {R : List HProp} (hP : SelL (Ps' x) Ps R) : WK P Q g n k K Ps := fun a w ka s =>
  J x hx a w (ka.keep hK) (s.toCs hP)

theorem WK.drawnQ {id : Nat} {ops : Array Oper} (hm : P.follows .mixedOrders = true) (l : List (Nat × Nat)) (hs : plainOps ops = true) (hl : l.length = ops.size)
    (hc : (chk .any ops l (Array.replicate ops.size false) && chkBrk .any ops l && (l.all fun x => decide (x.2 ≤ 2)) && (l.all fun x => x.2 != 0 || !brkOf l x.1)) = true) (h : WO P ops (Exit.then (wpK P Q k) Q) g n Ps l K Ps) : WK P Q g n (.region id ops true :: k) K Ps :=
  WK.drawn hm l Ps hs hl hc h

theorem WK.keep {K' : List (Nat × Value)} (hk : KK K K') (h : WK P Q g n k K' Ps) : WK P Q g n k K Ps := fun a w ka s => h a w (ka.keep hk) s

/-- The pieces in another order, some of them struck. -/
theorem WK.mem {As R : List HProp} (hs : SelL As Ps R) (h : WK P Q g n k K As) : WK P Q g n k K Ps := fun a w ka s => h a w ka ((s.sel hs).perm (List.perm_append_comm) |>.drop)
theorem WK.memAll {As R : List HProp} (hs : SelL As Ps R) (h : WK P Q g n k K (As ++ R)) : WK P Q g n k K Ps := fun a w ka s => h a w ka (s.sel hs)

/-- Pieces are opened. -/
theorem WK.open_ {As R : List HProp} {ι : Type} {φ : ι → Prop} {m : ι → List HProp} (hs : SelL As Ps R) (f : ∀ h, sepL As h → ∃ x, φ x ∧ sepL (m x) h) (h : ∀ x, φ x → WK P Q g n k K (m x ++ R)) : WK P Q g n k K Ps := fun a w ka s => by
  obtain ⟨x, hx, s'⟩ := (s.sel hs).open_ f
  exact h x hx a w ka s'
theorem WK.shut {As Bs R : List HProp} (hs : SelL As Ps R) (f : ∀ h, sepL As h → sepL Bs h) (h : WK P Q g n k K (Bs ++ R)) : WK P Q g n k K Ps := fun a w ka s => h a w ka ((s.sel hs).conseq f)
theorem WK.sat {Ps' : List HProp} (f : ∀ w, Sat g w Ps → Sat g w Ps') (h : WK P Q g n k K Ps') : WK P Q g n k K Ps := fun a w ka s => h a w ka (f w s)

/-- A loop by an invariant that bears a number. -/
theorem wpIn_loop_num {F : Fence} {m : Nat} {Q : Exit → Act → World → Prop} {a : Act} {w : World} {c : Code} (I : Nat → Act → World → Prop) (k₀ : Nat) (h₀ : I k₀ a w)
    (round : ∀ k a w, I k a w → c.wpIn F m P (Exit.then (fun a' w' => ∃ k', k' < k ∧ I k' a' w') Q) a w) : (Code.loop c).wpIn F m P Q a w :=
  wpIn_loop (fun a w => ∃ k, I k a w) (fun a w => leastOf (fun k => I k a w)) ⟨k₀, h₀⟩ fun a w hI => by
    refine Code.wpIn_mono (fun e a' w' hq => ?_) (round _ a w (leastOf_spec hI).1)
    cases e with
    | normal =>
      obtain ⟨k', hlt, hI'⟩ := hq
      exact ⟨⟨k', hI'⟩, Nat.lt_of_le_of_lt ((leastOf_spec (p := fun k => I k a' w') ⟨k', hI'⟩).2 k' hI') hlt⟩
    | _ => exact hq

/-- A loop: the relation is a family of lists, the measure a number of the family's index. -/
theorem WK.loop {c : Code} {ι : Type} (φ : ι → Prop) (K' : ι → List (Nat × Value)) (Ps' : ι → List HProp) (μ : ι → Nat) (x₀ : ι) (h₀ : φ x₀) (hK : KK K (K' x₀)) {R : List HProp} (hP : SelL (Ps' x₀) Ps R)
    (round : ∀ x, φ x → ∀ N : Act → World → Prop, (∀ y, φ y → μ y < μ x → ∀ a w, Kn n (K' y) a → Sat g w (Ps' y) → N a w) → WK P (Exit.then N (Exit.then (wpK P Q k) Q)) g n [c] (K' x) (Ps' x)) : WK P Q g n (.loop c :: k) K Ps := fun a w ka s => by
  show (Code.loop c).wpIn (WR rn) 0 P _ a w
  refine wpIn_loop_num (fun m a w => ∃ x, μ x = m ∧ φ x ∧ Kn n (K' x) a ∧ Sat g w (Ps' x)) (μ x₀) ⟨x₀, rfl, h₀, ka.keep hK, (s.sel hP).perm List.perm_append_comm |>.drop⟩ ?_
  rintro m a w ⟨x, rfl, hx, ka, s⟩
  have := round x hx (fun a' w' => ∃ m', m' < μ x ∧ ∃ y, μ y = m' ∧ φ y ∧ Kn n (K' y) a' ∧ Sat g w' (Ps' y)) (fun y hy hlt a w ka s => ⟨μ y, hlt, y, rfl, hy, ka, s⟩) a w ka s
  refine Code.wpIn_mono (fun e a w q => ?_) this
  cases e <;> exact q

/-- The end of a round. -/
theorem WK.next {ι : Type} {φ : ι → Prop} {K' : ι → List (Nat × Value)} {Ps' : ι → List HProp} {μ : ι → Nat} {x : ι} {N : Act → World → Prop} {Q2 : Exit → Act → World → Prop}
    (hN : ∀ y, φ y → μ y < μ x → ∀ a w, Kn n (K' y) a → Sat g w (Ps' y) → N a w) (y : ι) (hy : φ y) (hlt : μ y < μ x) (hK : KK K (K' y)) {R : List HProp} (hP : SelL (Ps' y) Ps R) : WK P (Exit.then N Q2) g n [] K Ps := fun a w ka s =>
  hN y hy hlt a w (ka.keep hK) ((s.sel hP).perm List.perm_append_comm |>.drop)

/-- The code that is walked last, its block's end behind it. -/
theorem WK.endThen {N : Act → World → Prop} (h : ∀ a w, Kn n K a → Sat g w Ps → N a w) : WK P (Exit.then N Q) g n [] K Ps := h
end

end
/-! ### Functions -/

/-- A call of f at args, where Pre is met: for some x with φ x it hands back val x, and Post x is met in Pre's place. -/
def Triple (P : Program) (f : FuncId) (args : Array Value) (Pre : List HProp) (ι : Type) (φ : ι → Prop) (val : ι → Value) (Post : ι → List HProp) : Prop :=
  ∀ g w F, Sat g w (Pre ++ F) → Calls P f args w (fun e w' => ∃ x, φ x ∧ e = .returned (val x) ∧ Sat g w' (Post x ++ F))

def numb : Nat → List Value → List (Nat × Value)
  | _, [] => []
  | i, v :: l => (i, v) :: numb (i + 1) l

theorem look_numb (l : List Value) : ∀ i d v, look (numb i l) d = some v → i ≤ d ∧ l[d - i]? = some v := by
  induction l with
  | nil => intro i d v h; cases h
  | cons u l ih =>
    intro i d v h
    by_cases e : i = d
    · subst e; rw [numb, look_cons_eq] at h; cases h; simp
    · rw [numb, look_cons_ne e] at h
      obtain ⟨h1, h2⟩ := ih _ _ _ h
      refine ⟨by omega, ?_⟩
      have : d - i = (d - (i + 1)) + 1 := by omega
      rw [this]; simpa using h2

theorem Triple.of_body {P : Program} {f : FuncId} {fn : Func} {c : Code} {args : List Value} {n : Nat} {Pre : List HProp} {ι : Type} {φ : ι → Prop} {val : ι → Value} {Post : ι → List HProp}
    (hf : P.funcs[f]? = some fn) (hb : fn.body = some c) (hn : fn.ntmps = n) (hl : args.length ≤ n)
    (h : ∀ g F, WK P (bodyPostM Fence.wide 0 P fn (fun e w' => ∃ x, φ x ∧ e = .returned (val x) ∧ Sat g w' (Post x ++ F))) g n [c] (numb 0 args) (Pre ++ F)) : Triple P f args.toArray Pre ι φ val Post := by
  intro g w F s
  refine (callsIn_wide (n := 0)).1 (callsIn_of_wp_marks hf hb trivial ?_)
  have := h g F { tmps := args.toArray ++ Array.replicate (fn.ntmps - args.toArray.size) undef, defers := [] } w ⟨by simp [hn]; omega, rfl, fun d v e => ?_⟩ s
  · refine Code.wpIn_mono (fun e a w q => ?_) this
    cases e <;> exact q
  · obtain ⟨_, e⟩ := look_numb _ _ _ _ e
    have hd : d < args.length := by
      rcases Nat.lt_or_ge d args.length with k | k
      · exact k
      · simp [List.getElem?_eq_none k] at e
    show (args.toArray ++ _)[d]? = some v
    rw [Array.getElem?_append_left (by simpa using hd)]
    simpa using e

theorem Triple.mono {P : Program} {f : FuncId} {args : Array Value} {Pre Pre' : List HProp} {ι ι' : Type} {φ : ι → Prop} {val : ι → Value} {Post : ι → List HProp} {φ' : ι' → Prop} {val' : ι' → Value} {Post' : ι' → List HProp}
    (t : Triple P f args Pre ι φ val Post) (hp : ∀ g w F, Sat g w (Pre' ++ F) → Sat g w (Pre ++ F)) (hq : ∀ x, φ x → ∃ y, φ' y ∧ val x = val' y ∧ ∀ g w F, Sat g w (Post x ++ F) → Sat g w (Post' y ++ F)) : Triple P f args Pre' ι' φ' val' Post' := fun g w F s =>
  (t g w F (hp g w F s)).mono fun e w' ⟨x, hx, he, s'⟩ => by
    obtain ⟨y, hy, hv, hs⟩ := hq x hx
    exact ⟨y, hy, by rw [he, hv], hs g w' F s'⟩

section
variable [Rnd]
theorem Kn.getD {n : Nat} {K : List (Nat × Value)} {a : Act} (h : Kn n K a) {t : Nat} {v : Value} (e : look K t = some v) : a.tmps.getD t undef = v := by
  have := h.val t v e
  simp [this]

theorem results0 {fn : Func} {Ps : List HProp} {g : World} {n : Nat} {K : List (Nat × Value)} {P : Program} (hr : fn.results = #[]) : ∀ a, Kn n K a → ∀ w, Sat g w Ps → (results fn a.tmps).run P w = .ok (.tuple #[]) w := fun a ka w _ => by
  simp [results, hr]

theorem results1 {fn : Func} {Ps : List HProp} {g : World} {n : Nat} {K : List (Nat × Value)} {P : Program} {t : Nat} {v : Value} (hr : fn.results = #[.tmp t]) (h : look K t = some v) : ∀ a, Kn n K a → ∀ w, Sat g w Ps → (results fn a.tmps).run P w = .ok v w := fun a ka w _ => by
  rw [← ka.getD h]
  simp [results, hr]

theorem results2 {fn : Func} {Ps : List HProp} {g : World} {n : Nat} {K : List (Nat × Value)} {P : Program} {t u : Nat} {v v' : Value} (hr : fn.results = #[.tmp t, .tmp u]) (h : look K t = some v) (h' : look K u = some v') : ∀ a, Kn n K a → ∀ w, Sat g w Ps → (results fn a.tmps).run P w = .ok (.tuple #[v, v']) w := fun a ka w _ => by
  rw [← ka.getD h, ← ka.getD h']
  simp [results, hr]

theorem results3 {fn : Func} {Ps : List HProp} {g : World} {n : Nat} {K : List (Nat × Value)} {P : Program} {t u s : Nat} {v v' v'' : Value} (hr : fn.results = #[.tmp t, .tmp u, .tmp s]) (h : look K t = some v) (h' : look K u = some v') (h'' : look K s = some v'') : ∀ a, Kn n K a → ∀ w, Sat g w Ps → (results fn a.tmps).run P w = .ok (.tuple #[v, v', v'']) w := fun a ka w _ => by
  rw [← ka.getD h, ← ka.getD h', ← ka.getD h'']
  simp [results, hr]

end
end Go.Sep
