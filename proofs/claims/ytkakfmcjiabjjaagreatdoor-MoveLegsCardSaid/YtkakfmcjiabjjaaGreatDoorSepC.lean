/- One law an operation. -/
import Derived.Test.YtkakfmcjiabjjaaGreatDoorSepB
namespace Go.Sep
set_option linter.unusedVariables false
set_option linter.unusedSimpArgs false
set_option linter.unusedSectionVars false
set_option linter.unnecessarySimpa false
open Go
variable [Rnd]

section
variable {P : Program} {g : World} {n : Nat} {K : List (Nat × Value)} {Ps R : List HProp} {d : Option Tmp} {T : TypeId} {pos : String} {af : Array Edge} {gd : Option (Nat × Bool)}

/-- A row of cells, none of them frozen. -/
def row (p : Bool) (b : Nat) (t : TypeId) (l : List Value) : HProp := fun h => ∃ fz : Nat × Nat, (fz.1 = fz.2 ∨ l.length ≤ fz.1) ∧ held p b (.cells l.toArray t fz) h
def mapO (p : Bool) (b : Nat) (es : List MapEntry) (clock : Nat) : HProp := held p b (.map es.toArray clock)

theorem dup_row (b : Nat) (t : TypeId) (l : List Value) : Dup (row false b t l) := by
  rintro h ⟨fz, _, e⟩
  exact dup_ro _ _ h e

theorem one_sepL {A : HProp} {h : Hp} : sepL [A] h ↔ A h := by
  constructor
  · rintro ⟨h1, h2, a, b, _, rfl⟩
    have e : h2 = Hp.empty := b
    subst e
    rw [Hp.union_empty]; exact a
  · intro a
    exact ⟨h, Hp.empty, a, rfl, Hp.disj_symm (Hp.empty_disj h), (Hp.union_empty h).symm⟩

theorem Sat.rowOpen {w : World} {p : Bool} {b : Nat} {t : TypeId} {l : List Value} (s : Sat g w (row p b t l :: Ps)) : ∃ fz : Nat × Nat, (fz.1 = fz.2 ∨ l.length ≤ fz.1) ∧ Sat g w (held p b (.cells l.toArray t fz) :: Ps) :=
  Sat.open_ (l := [row p b t l]) (m := fun fz => [held p b (.cells l.toArray t fz)]) s fun h e => by
    obtain ⟨fz, h1, h2⟩ := one_sepL.1 e
    exact ⟨fz, h1, one_sepL.2 h2⟩
theorem Sat.rowShut {w : World} {p : Bool} {b : Nat} {t : TypeId} {l : List Value} {fz : Nat × Nat} (s : Sat g w (held p b (.cells l.toArray t fz) :: Ps)) (hf : fz.1 = fz.2 ∨ l.length ≤ fz.1) : Sat g w (row p b t l :: Ps) :=
  Sat.conseq (l := [held p b (.cells l.toArray t fz)]) (m := [row p b t l]) s fun h e => one_sepL.2 ⟨fz, hf, one_sepL.1 e⟩
theorem Sat.rowFreeze {w : World} {b : Nat} {t : TypeId} {l : List Value} (s : Sat g w (row true b t l :: Ps)) : Sat g w (row false b t l :: Ps) := by
  obtain ⟨fz, h, s'⟩ := s.rowOpen
  exact s'.freeze.rowShut h
theorem Sat.rowGet {w : World} {p : Bool} {b : Nat} {t : TypeId} {l : List Value} (s : Sat g w (row p b t l :: Ps)) : ∃ fz : Nat × Nat, (fz.1 = fz.2 ∨ l.length ≤ fz.1) ∧ w.heap[b]? = some (.cells l.toArray t fz) := by
  obtain ⟨fz, h, s'⟩ := s.rowOpen
  exact ⟨fz, h, s'.get⟩
theorem Sat.rowCell? {w : World} {p : Bool} {b : Nat} {t : TypeId} {l : List Value} (s : Sat g w (row p b t l :: Ps)) (o : Nat) : w.cell? ⟨b, o, none⟩ = l[o]? := by
  obtain ⟨fz, _, h⟩ := s.rowGet
  simp [World.cell?, h]
theorem Sat.rowFrozen {w : World} {p : Bool} {b : Nat} {t : TypeId} {l : List Value} (s : Sat g w (row p b t l :: Ps)) {o : Nat} (ho : o < l.length) : w.frozen? ⟨b, o, none⟩ = false := by
  obtain ⟨fz, hf, h⟩ := s.rowGet
  simp only [World.frozen?, h]
  rw [Bool.and_eq_false_iff]
  simp only [decide_eq_false_iff_not]
  omega

theorem Sat.cell {w : World} {p : Bool} {b : Nat} {t : TypeId} {l : List Value} (s : Sat g w Ps) (hs : Sel (row p b t l) Ps R) {o : Nat} {v : Value} (h : l[o]? = some v) : w.cell? ⟨b, o, none⟩ = some v := by
  rw [(s.sel1 hs).rowCell?, h]

/-! ### Copies -/

theorem yld_move {x : Operand} {v : Value} (hx : ev K x = some v) : Yld P g n ⟨d, .move x, T, pos, af, gd⟩ K Ps v := fun a w k _ => by
  simp [execOp, k.ev hx, Sem.run, pure]
theorem yld_assign {x : Operand} {v : Value} (hx : ev K x = some v) : Yld P g n ⟨d, .assign x, T, pos, af, gd⟩ K Ps v := fun a w k _ => by
  simp [execOp, k.ev hx, Sem.run, pure]
theorem yld_pick_true {c x y : Operand} {v : Value} (hc : ev K c = some (.bool true)) (hx : ev K x = some v) : Yld P g n ⟨d, .pick c x y, T, pos, af, gd⟩ K Ps v := fun a w k _ => by
  simp [execOp, k.ev hc, k.ev hx, asBool, Sem.run, pure]
theorem yld_pick_false {c x y : Operand} {v : Value} (hc : ev K c = some (.bool false)) (hy : ev K y = some v) : Yld P g n ⟨d, .pick c x y, T, pos, af, gd⟩ K Ps v := fun a w k _ => by
  simp [execOp, k.ev hc, k.ev hy, asBool, Sem.run, pure]
theorem yld_nilCheck {x : Operand} {b : Addr} (hx : ev K x = some (.pointer (some b))) : Yld P g n ⟨d, .nilCheck x, T, pos, af, gd⟩ K Ps (.pointer (some b)) := fun a w k _ => by
  simp [execOp, k.ev hx, Sem.run, pure]
theorem yld_nilCheck_func {x : Operand} {f : FuncId} {u c : Array Value} (hx : ev K x = some (.func (.func f) u c)) : Yld P g n ⟨d, .nilCheck x, T, pos, af, gd⟩ K Ps (.func (.func f) u c) := fun a w k _ => by
  simp [execOp, k.ev hx, Sem.run, pure]
theorem yld_extract {x : Operand} {i : Nat} {l : List Value} {v : Value} (hx : ev K x = some (.tuple l.toArray)) (hi : l[i]? = some v) : Yld P g n ⟨d, .extract x i, T, pos, af, gd⟩ K Ps v := fun a w k _ => by
  simp [execOp, k.ev hx, Instr.extract, hi, Sem.run, pure]
theorem yld_makeFunc {fn : Fn} {xs ys : List Operand} {us vs : List Value} (hx : xs.map (ev K) = us.map some) (hy : ys.map (ev K) = vs.map some) : Yld P g n ⟨d, .makeFunc fn xs.toArray ys.toArray, T, pos, af, gd⟩ K Ps (.func fn us.toArray vs.toArray) := fun a w k _ => by
  have key : ∀ (xs : List Operand) (us : List Value), xs.map (ev K) = us.map some → xs.map a.eval = us := by
    intro xs
    induction xs with
    | nil => intro us h; cases us <;> simp_all
    | cons x xs ih =>
      intro us h
      cases us with
      | nil => simp at h
      | cons u us => simp at h; simp [k.ev h.1, ih us h.2]
  simp [execOp, Instr.makeFunc, key _ _ hx, key _ _ hy, Sem.run, pure]

/-! ### Whole numbers -/

theorem yld_bin {op : BinOp} {t u : TypeId} {x y : Operand} {vx vy v : Value} (hx : ev K x = some vx) (hy : ev K y = some vy)
    (hr : ∀ w, Sem.run P (do eqGuard op t x y vx vy; binOp op t vx vy) w = .ok v w) : Yld P g n ⟨d, .binOp op t x y u, T, pos, af, gd⟩ K Ps v := fun a w k _ => by
  have e : execOp a.eval ⟨d, .binOp op t x y u, T, pos, af, gd⟩ = (do pure (.value (← (do eqGuard op t (x) (y) vx vy; binOp op t vx vy)))) := by
    simp [execOp, k.ev hx, k.ev hy]
  rw [e, Sem.run_bind, hr]
  rfl

theorem yld_add {t u : TypeId} {x y : Operand} {kd : IntKind} {i j r : Int} (hx : ev K x = some (.int kd i)) (hy : ev K y = some (.int kd j)) (hr : kd.wrap (i + j) = r) : Yld P g n ⟨d, .binOp .add t x y u, T, pos, af, gd⟩ K Ps (.int kd r) :=
  yld_bin hx hy fun w => by subst hr; simp [eqGuard, binOp, Op.intArith, Sem.run, pure]
theorem yld_sub {t u : TypeId} {x y : Operand} {kd : IntKind} {i j r : Int} (hx : ev K x = some (.int kd i)) (hy : ev K y = some (.int kd j)) (hr : kd.wrap (i - j) = r) : Yld P g n ⟨d, .binOp .sub t x y u, T, pos, af, gd⟩ K Ps (.int kd r) :=
  yld_bin hx hy fun w => by subst hr; simp [eqGuard, binOp, Op.intArith, Sem.run, pure]
theorem yld_mul {t u : TypeId} {x y : Operand} {kd : IntKind} {i j r : Int} (hx : ev K x = some (.int kd i)) (hy : ev K y = some (.int kd j)) (hr : kd.wrap (i * j) = r) : Yld P g n ⟨d, .binOp .mul t x y u, T, pos, af, gd⟩ K Ps (.int kd r) :=
  yld_bin hx hy fun w => by subst hr; simp [eqGuard, binOp, Op.intArith, Sem.run, pure]
theorem yld_quo {t u : TypeId} {x y : Operand} {kd : IntKind} {i j r : Int} (hx : ev K x = some (.int kd i)) (hy : ev K y = some (.int kd j)) (h0 : j ≠ 0) (hr : kd.wrap (i.tdiv j) = r) : Yld P g n ⟨d, .binOp .quo t x y u, T, pos, af, gd⟩ K Ps (.int kd r) :=
  yld_bin hx hy fun w => by subst hr; simp [eqGuard, binOp, Op.intDiv, h0, Sem.run, pure]
theorem yld_rem {t u : TypeId} {x y : Operand} {kd : IntKind} {i j r : Int} (hx : ev K x = some (.int kd i)) (hy : ev K y = some (.int kd j)) (h0 : j ≠ 0) (hr : i.tmod j = r) : Yld P g n ⟨d, .binOp .rem t x y u, T, pos, af, gd⟩ K Ps (.int kd r) :=
  yld_bin hx hy fun w => by subst hr; simp [eqGuard, binOp, Op.intDiv, h0, Sem.run, pure]
theorem yld_lss {t u : TypeId} {x y : Operand} {kd : IntKind} {i j : Int} (hx : ev K x = some (.int kd i)) (hy : ev K y = some (.int kd j)) : Yld P g n ⟨d, .binOp .lss t x y u, T, pos, af, gd⟩ K Ps (.bool (decide (i < j))) :=
  yld_bin hx hy fun w => by simp [eqGuard, binOp, Op.intCmp, Sem.run, pure]
theorem yld_leq {t u : TypeId} {x y : Operand} {kd : IntKind} {i j : Int} (hx : ev K x = some (.int kd i)) (hy : ev K y = some (.int kd j)) : Yld P g n ⟨d, .binOp .leq t x y u, T, pos, af, gd⟩ K Ps (.bool (decide (i ≤ j))) :=
  yld_bin hx hy fun w => by simp [eqGuard, binOp, Op.intCmp, Sem.run, pure]
theorem yld_gtr {t u : TypeId} {x y : Operand} {kd : IntKind} {i j : Int} (hx : ev K x = some (.int kd i)) (hy : ev K y = some (.int kd j)) : Yld P g n ⟨d, .binOp .gtr t x y u, T, pos, af, gd⟩ K Ps (.bool (decide (j < i))) :=
  yld_bin hx hy fun w => by simp [eqGuard, binOp, Op.intCmp, Sem.run, pure]
theorem yld_geq {t u : TypeId} {x y : Operand} {kd : IntKind} {i j : Int} (hx : ev K x = some (.int kd i)) (hy : ev K y = some (.int kd j)) : Yld P g n ⟨d, .binOp .geq t x y u, T, pos, af, gd⟩ K Ps (.bool (decide (j ≤ i))) :=
  yld_bin hx hy fun w => by simp [eqGuard, binOp, Op.intCmp, Sem.run, pure]
theorem yld_eql {t u : TypeId} {x y : Operand} {kd : IntKind} {i j : Int} (hx : ev K x = some (.int kd i)) (hy : ev K y = some (.int kd j)) : Yld P g n ⟨d, .binOp .eql t x y u, T, pos, af, gd⟩ K Ps (.bool (decide (i = j))) :=
  yld_bin hx hy fun w => by simp [eqGuard, binOp, Op.intCmp, Sem.run, pure]; by_cases h : i = j <;> simp [h]
theorem yld_neq {t u : TypeId} {x y : Operand} {kd : IntKind} {i j : Int} (hx : ev K x = some (.int kd i)) (hy : ev K y = some (.int kd j)) : Yld P g n ⟨d, .binOp .neq t x y u, T, pos, af, gd⟩ K Ps (.bool (decide (i ≠ j))) :=
  yld_bin hx hy fun w => by simp [eqGuard, binOp, Op.intCmp, Sem.run, pure]; by_cases h : i = j <;> simp [h]
/-- & | ^ &^ -/
theorem yld_bits {op : BinOp} {t u : TypeId} {x y : Operand} {kd : IntKind} {i j : Int} {v : Value} (hx : ev K x = some (.int kd i)) (hy : ev K y = some (.int kd j)) (hr : ∀ w, Sem.run P (Op.intBits op kd i j) w = .ok v w) (hop : (match op with | .and | .or | .xor | .andNot => true | _ => false) = true) : Yld P g n ⟨d, .binOp op t x y u, T, pos, af, gd⟩ K Ps v :=
  yld_bin hx hy fun w => by cases op <;> first | (cases hop; done) | (rw [← hr w]; simp [eqGuard, binOp, Sem.run, pure])
theorem yld_shift {op : BinOp} {t u : TypeId} {x y : Operand} {kd k2 : IntKind} {i j : Int} {v : Value} (hx : ev K x = some (.int kd i)) (hy : ev K y = some (.int k2 j)) (hr : ∀ w, Sem.run P (Op.shift op kd i k2 j) w = .ok v w) (hop : (match op with | .shl | .shr => true | _ => false) = true) : Yld P g n ⟨d, .binOp op t x y u, T, pos, af, gd⟩ K Ps v :=
  yld_bin hx hy fun w => by cases op <;> first | (cases hop; done) | (rw [← hr w]; simp [eqGuard, binOp, Sem.run, pure])
theorem yld_neg {t : TypeId} {x : Operand} {kd : IntKind} {i r : Int} (hx : ev K x = some (.int kd i)) (hr : kd.wrap (-i) = r) : Yld P g n ⟨d, .unOp .neg t x, T, pos, af, gd⟩ K Ps (.int kd r) := fun a w k _ => by
  subst hr
  simp [execOp, k.ev hx, Op.unary, Op.intArith, Sem.run, pure]
theorem yld_not {t : TypeId} {x : Operand} {b : Bool} (hx : ev K x = some (.bool b)) : Yld P g n ⟨d, .unOp .not t x, T, pos, af, gd⟩ K Ps (.bool !b) := fun a w k _ => by
  simp [execOp, k.ev hx, Op.unary, Sem.run, pure]
/-- A conversion between kinds of whole numbers. -/
theorem yld_convInt {t u : TypeId} {x : Operand} {k1 k2 : IntKind} {i r : Int} {dt : TypeDesc} (hx : ev K x = some (.int k1 i)) (h1 : ∀ w, Sem.run P (underlying t) w = .ok dt w) (h2 : ∀ w, Sem.run P (underlying u) w = .ok (.int k2) w) (hr : k2.wrap i = r) : Yld P g n ⟨d, .convert t u x, T, pos, af, gd⟩ K Ps (.int k2 r) := fun a w k _ => by
  subst hr
  simp [execOp, k.ev hx, convert, h1, h2, Conv.intToInt, Sem.run, pure]
theorem w64 {e : Int} (h1 : -9223372036854775808 ≤ e) (h2 : e ≤ 9223372036854775807) : IntKind.i64.wrap e = e := IntWalk.i64_in _ ⟨h1, h2⟩

end
end Go.Sep
