/- Regions that draw their order, where several effects may come up: a tree of orders. -/
import Derived.Test.YtkakfmcjiabjjaaGreatDoorSepS
namespace Go.Sep
set_option linter.unusedVariables false
set_option linter.unusedSimpArgs false
set_option linter.unusedSectionVars false
set_option linter.unnecessarySimpa false
open Go
variable [rn : Rnd]

/-- The orders of a region: a quiet operation, as soon as it may come up; one effect, where it alone may come up; one of several effects (each with what is behind it). -/
inductive OT
  | done
  | q (i : Nat) (t : OT)
  | e (i : Nat) (t : OT)
  | alt (i : Nat) (t r : OT)
  | stop

def OT.heads : OT → List Nat
  | .alt i _ r => i :: r.heads
  | _ => []

/-- top: not among the further alternatives. -/
def OT.chk (md : Region.Mode) (ops : Array Oper) : OT → Bool → Array Bool → Bool
  | .done, top, L => top && (Region.ready md ops L).isEmpty
  | .q i t, top, L => top && (Region.free md ops L i && ((Region.ready md ops L).contains i && t.chk md ops true (L.setIfInBounds i true)))
  | .e i t, top, L => top && ((Region.ready md ops L == [i]) && t.chk md ops true (L.setIfInBounds i true))
  | .alt i t r, top, L => (!top || (Region.ready md ops L == i :: r.heads)) && (t.chk md ops true (L.setIfInBounds i true) && r.chk md ops false L)
  | .stop, top, _ => !top

def wpOT (P : Program) (ops : Array Oper) (Q : Exit → Act → World → Prop) (S : World → Prop) : OT → Act → World → Prop
  | .done, a, w => Q .normal a w
  | .q i t, a, w => S w ∧ ∃ o v, ops[i]? = some o ∧ YieldsIf P ops S o v a ∧ wpOT P ops Q S t (a.put o.dst v) w
  | .e i t, a, w => wpOpR P ops Q i (fun a' w' => S w' ∧ wpOT P ops Q S t a' w') a w
  | .alt i t r, a, w => wpOpR P ops Q i (fun a' w' => S w' ∧ wpOT P ops Q S t a' w') a w ∧ wpOT P ops Q S r a w
  | .stop, _, _ => True

def OT.size : OT → Nat
  | .done => 0
  | .q _ t => t.size + 1
  | .e _ t => t.size + 1
  | .alt _ t r => max (t.size + 1) r.size
  | .stop => 0

theorem wpAnyX_more {P : Program} {ops : Array Oper} {Q : Exit → Act → World → Prop} {S : World → Prop} {md : Region.Mode} {brk : Nat → Bool} : ∀ (f g : Nat), f ≤ g → ∀ (L : Array Bool) (a : Act) (w : World), wpAnyX P md ops Q S brk f L a w → wpAnyX P md ops Q S brk g L a w
  | 0, 0, _, L, a, w, h => h
  | 0, g + 1, _, L, a, w, h => by
    refine ⟨fun _ => h.2, fun i hi => ?_⟩
    rw [h.1] at hi; cases hi
  | f + 1, 0, hle, _, _, _, _ => by omega
  | f + 1, g + 1, hle, L, a, w, h => ⟨h.1, fun i hi => wpOpIn_mono (fun a' w' x => ⟨x.1, wpAnyX_more f g (by omega) _ a' w' x.2⟩) (h.2 i hi)⟩

theorem wpOT_e {P : Program} {ops : Array Oper} {Q : Exit → Act → World → Prop} {S : World → Prop} {i : Nat} {t : OT} {a : Act} {w : World} : wpOT P ops Q S (.e i t) a w = wpOpR P ops Q i (fun a' w' => S w' ∧ wpOT P ops Q S t a' w') a w := by rw [wpOT]

/-- The walk's alternatives, each for itself. -/
theorem wpOT_alts {P : Program} {ops : Array Oper} {Q : Exit → Act → World → Prop} {S : World → Prop} {md : Region.Mode} : ∀ (t : OT) (L : Array Bool) (a : Act) (w : World), t.chk md ops false L = true → wpOT P ops Q S t a w → ∀ i ∈ t.heads, ∃ t' : OT, t'.size < t.size ∧ t'.chk md ops true (L.setIfInBounds i true) = true ∧ wpOpR P ops Q i (fun a' w' => S w' ∧ wpOT P ops Q S t' a' w') a w
  | .stop, L, a, w, _, _, i, hi => by cases hi
  | .done, L, a, w, hc, _, i, hi => by cases hi
  | .q _ _, L, a, w, hc, _, i, hi => by cases hi
  | .e _ _, L, a, w, hc, _, i, hi => by cases hi
  | .alt j t r, L, a, w, hc, h, i, hi => by
    simp only [OT.chk, Bool.not_false, Bool.true_or, Bool.true_and, Bool.and_eq_true] at hc
    simp only [wpOT] at h
    simp only [OT.heads, List.mem_cons] at hi
    rcases hi with rfl | hi
    · exact ⟨t, by simp only [OT.size]; omega, hc.1, h.1⟩
    · obtain ⟨t', h1, h2, h3⟩ := wpOT_alts r L a w hc.2 h.2 i hi
      exact ⟨t', by simp only [OT.size]; omega, h2, h3⟩

theorem wpAnyX_of_tree {P : Program} {ops : Array Oper} {Q : Exit → Act → World → Prop} {S : World → Prop} {md : Region.Mode} (hs : plainOps ops = true) :
    ∀ (n : Nat) (t : OT), t.size ≤ n → ∀ (L : Array Bool) (a : Act) (w : World), DC md ops L → t.chk md ops true L = true → wpOT P ops (NoP Q) S t a w → wpAnyX P md ops (NoP Q) S (fun _ => false) n L a w
  | n, .done, hn, L, a, w, hd, hc, h => by
    simp only [OT.chk, Bool.true_and] at hc
    refine wpAnyX_more 0 n (Nat.zero_le _) L a w ⟨by simpa using hc, h⟩
  | n, .stop, hn, L, a, w, hd, hc, h => by simp [OT.chk] at hc
  | 0, .q i t, hn, _, _, _, _, _, _ => by simp [OT.size] at hn
  | 0, .e i t, hn, _, _, _, _, _, _ => by simp [OT.size] at hn
  | 0, .alt i t r, hn, _, _, _, _, _, _ => by simp only [OT.size] at hn; omega
  | n + 1, .q i t, hn, L, a, w, hd, hc, h => by
    simp only [OT.chk, Bool.true_and, Bool.and_eq_true] at hc
    obtain ⟨h1, h2, h3⟩ := hc
    obtain ⟨hS, o, v, ho, hy, hr⟩ := h
    have hri : i ∈ Region.ready md ops L := by simpa using h2
    exact wpAnyX_first ho hs (fun _ _ _ x => x) (fun j hj => by cases hj) rfl n L a w hd (Region.free_spec ho h1) hri hy hS
      (wpAnyX_of_tree hs n t (by simp only [OT.size] at hn; omega) _ _ w (hd.set hri) h3 hr)
  | n + 1, .e i t, hn, L, a, w, hd, hc, h => by
    simp only [OT.chk, Bool.true_and, Bool.and_eq_true, beq_iff_eq] at hc
    obtain ⟨h1, h3⟩ := hc
    have hri : i ∈ Region.ready md ops L := by rw [h1]; simp
    refine ⟨(fun h0 => by rw [h1] at h0; cases h0), fun j hj => ?_⟩
    obtain rfl : j = i := by rw [h1] at hj; simpa using hj
    rw [wpOT_e] at h
    exact wpOpIn_mono (fun a' w' ⟨x, y⟩ => ⟨fun _ => x, wpAnyX_of_tree hs n t (by simp only [OT.size] at hn; omega) _ a' w' (hd.set hri) h3 y⟩) h
  | n + 1, .alt i t r, hn, L, a, w, hd, hc, h => by
    have hc2 : (OT.alt i t r).chk md ops false L = true := by
      simp only [OT.chk, Bool.and_eq_true, Bool.not_false, Bool.true_or, true_and] at hc ⊢
      exact hc.2
    have hrd : Region.ready md ops L = (OT.alt i t r).heads := by
      simp only [OT.chk, Bool.not_true, Bool.false_or, Bool.and_eq_true, beq_iff_eq] at hc
      exact hc.1
    refine ⟨(fun h0 => by rw [hrd] at h0; cases h0), fun j hj => ?_⟩
    obtain ⟨t', h1, h2, h3⟩ := wpOT_alts (md := md) (.alt i t r) L a w hc2 h j (hrd ▸ hj)
    exact wpOpIn_mono (fun a' w' ⟨x, y⟩ => ⟨fun _ => x, wpAnyX_of_tree hs n t' (by omega) _ a' w' (hd.set hj) h2 y⟩) h3

def WT (P : Program) (ops : Array Oper) (Q : Exit → Act → World → Prop) (g : World) (n : Nat) (Cs : List HProp) (l : OT) (K : List (Nat × Value)) (Ps : List HProp) : Prop :=
  ∀ a w, Kn n K a → Sat g w Ps → wpOT P ops (NoP Q) (fun w => Sat g w Cs) l a w

section
variable {P : Program} {ops : Array Oper} {Q : Exit → Act → World → Prop} {g : World} {n : Nat} {Cs : List HProp} {l r : OT} {K : List (Nat × Value)} {Ps : List HProp} {i : Nat}

theorem WT.yld {o : Oper} {v : Value} {d : Nat} (ho : ops[i]? = some o) (hw : Wanted ops n K o) (y : Yld P g n o K Cs v) (hd : o.dst = some d) (hn : d < n) {R : List HProp} (hC : SelL Cs Ps R)
    (h : WT P ops Q g n Cs l ((d, v) :: K) Ps) : WT P ops Q g n Cs (.q i l) K Ps := fun a w k s =>
  ⟨s.toCs hC, o, v, ho, .inl ⟨hw a k, fun w' s' => y a w' k s'⟩, by rw [hd]; exact h _ w (k.put hn v) s⟩

theorem WT.skip {o : Oper} {d : Nat} (ho : ops[i]? = some o) (hw : Unwanted ops n K o) (hd : o.dst = some d) (hn : d < n) {R : List HProp} (hC : SelL Cs Ps R)
    (h : WT P ops Q g n Cs l ((d, undef) :: K) Ps) : WT P ops Q g n Cs (.q i l) K Ps := fun a w k s =>
  ⟨s.toCs hC, o, undef, ho, .inr ⟨hw a k, rfl⟩, by rw [hd]; exact h _ w (k.put hn _) s⟩


theorem WT.skipE {o : Oper} {d : Nat} (ho : ops[i]? = some o) (hw : Unwanted ops n K o) (hd : o.dst = some d) (hn : d < n) {R : List HProp} (hC : SelL Cs Ps R)
    (h : WT P ops Q g n Cs l ((d, undef) :: K) Ps) : WT P ops Q g n Cs (.e i l) K Ps := fun a w k s => by
  rw [wpOT_e]
  unfold wpOpR wpOpIn
  simp only [ho]
  rw [if_neg (by rw [hw a k]; simp), hd]
  exact ⟨fun _ _ => trivial, s.toCs hC, h _ w (k.put hn _) s⟩

theorem WT.effR {o : Oper} {d : Nat} {ι : Type} {φ : ι → Prop} {val : ι → Value} {Ps' : ι → List HProp} (ho : ops[i]? = some o) (hw : Wanted ops n K o) (e : EffR P g n o K Ps ι φ val Ps') (hd : o.dst = some d) (hn : d < n)
    {R : ι → List HProp} (hC : ∀ x, SelL Cs (Ps' x) (R x))
    (h : ∀ x, φ x → WT P ops Q g n Cs l ((d, val x) :: K) (Ps' x)) : WT P ops Q g n Cs (.e i l) K Ps := fun a w k s => by
  rw [wpOT_e]
  unfold wpOpR wpOpIn
  simp only [ho]
  rw [if_pos (hw a k)]
  refine e a w k s _ _ fun x w' hx s' => ?_
  rw [hd]
  exact ⟨s'.toCs (hC x), h x hx _ w' (k.put hn _) s'⟩

theorem WT.effR0 {o : Oper} {ι : Type} {φ : ι → Prop} {val : ι → Value} {Ps' : ι → List HProp} (ho : ops[i]? = some o) (hw : Wanted ops n K o) (e : EffR P g n o K Ps ι φ val Ps') (hd : o.dst = none)
    {R : ι → List HProp} (hC : ∀ x, SelL Cs (Ps' x) (R x))
    (h : ∀ x, φ x → WT P ops Q g n Cs l K (Ps' x)) : WT P ops Q g n Cs (.e i l) K Ps := fun a w k s => by
  rw [wpOT_e]
  unfold wpOpR wpOpIn
  simp only [ho]
  rw [if_pos (hw a k)]
  refine e a w k s _ _ fun x w' hx s' => ?_
  rw [hd]
  exact ⟨s'.toCs (hC x), h x hx _ w' k s'⟩

theorem WT.eff {o : Oper} {d : Nat} {ι : Type} {φ : ι → Prop} {val : ι → Value} {Ps' : ι → List HProp} (ho : ops[i]? = some o) (hw : Wanted ops n K o) (e : Eff P g n o K Ps ι φ val Ps') (hd : o.dst = some d) (hn : d < n)
    {R : ι → List HProp} (hC : ∀ x, SelL Cs (Ps' x) (R x))
    (h : ∀ x, φ x → WT P ops Q g n Cs l ((d, val x) :: K) (Ps' x)) (hf : noDefer o = true := by rfl) : WT P ops Q g n Cs (.e i l) K Ps := WT.effR ho hw (e.up hf) hd hn hC h

theorem WT.eff0 {o : Oper} {ι : Type} {φ : ι → Prop} {val : ι → Value} {Ps' : ι → List HProp} (ho : ops[i]? = some o) (hw : Wanted ops n K o) (e : Eff P g n o K Ps ι φ val Ps') (hd : o.dst = none)
    {R : ι → List HProp} (hC : ∀ x, SelL Cs (Ps' x) (R x))
    (h : ∀ x, φ x → WT P ops Q g n Cs l K (Ps' x)) (hf : noDefer o = true := by rfl) : WT P ops Q g n Cs (.e i l) K Ps := WT.effR0 ho hw (e.up hf) hd hC h

theorem WT.alt (h1 : WT P ops Q g n Cs (.e i l) K Ps) (h2 : WT P ops Q g n Cs r K Ps) : WT P ops Q g n Cs (.alt i l r) K Ps := fun a w k s => by
  have := h1 a w k s
  rw [wpOT_e] at this
  rw [wpOT]
  exact ⟨this, h2 a w k s⟩
theorem WT.stop : WT P ops Q g n Cs .stop K Ps := fun a w k s => by rw [wpOT]; trivial

theorem WT.split {d : Nat} {b : Bool} (hb : look K d = some (.bool b)) (ht : b = true → WT P ops Q g n Cs l ((d, .bool true) :: K) Ps) (hf : b = false → WT P ops Q g n Cs l ((d, .bool false) :: K) Ps) : WT P ops Q g n Cs l K Ps := fun a w k s => by
  have kk : ∀ u v, look ((d, .bool b) :: K) u = some v → look K u = some v := fun u v e => by
    by_cases hd : d = u
    · subst hd; rw [look_cons_eq] at e; cases e; exact hb
    · rw [look_cons_ne hd] at e; exact e
  have k' : Kn n ((d, .bool b) :: K) a := ⟨k.size, k.defers, fun u v e => k.val u v (kk u v e)⟩
  cases b with
  | true => exact ht rfl a w k' s
  | false => exact hf rfl a w k' s

theorem WT.done {k : List Code} (h : WK P Q g n k K Ps) : WT P ops (Exit.then (wpK P Q k) Q) g n Cs .done K Ps := fun a w ka s => by
  rw [wpOT]
  exact h a w ka s

theorem WK.drawnT {k : List Code} {id : Nat} (hm : P.follows .mixedOrders = true) (t : OT) (Cs : List HProp) (hs : plainOps ops = true) (hl : t.size ≤ ops.size)
    (hc : t.chk .any ops true (Array.replicate ops.size false) = true) (h : WT P ops (Exit.then (wpK P Q k) Q) g n Cs t K Ps) : WK P Q g n (.region id ops true :: k) K Ps := fun a w ka s => by
  show (Code.region id ops true).wpIn (WR rn) 0 P _ a w
  refine Code.wpIn_mono NoP.imp ?_
  refine wpIn_region_any hm ?_
  have s' := s.alike (Alike.drawn w (w.drawn + 1))
  refine wpAny_of_X (S := fun w => Sat g w Cs) (brk := fun _ => false) _ _ _ _ (wpAnyX_of_tree hs _ t hl _ a _ ?_ hc (h a _ ka s'))
  intro x o ho hx
  exfalso
  simp [Array.getElem?_replicate] at hx
  split at hx <;> simp at hx
end
end Go.Sep
