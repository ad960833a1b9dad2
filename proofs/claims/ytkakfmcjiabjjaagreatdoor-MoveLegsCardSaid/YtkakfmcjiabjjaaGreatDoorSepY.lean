/- Structs of numbers held against each other. -/
import Derived.Test.YtkakfmcjiabjjaaGreatDoorSepX
import Derived.Lib.Bytealg
namespace Go.Sep
set_option linter.unusedVariables false
set_option linter.unusedSimpArgs false
set_option linter.unusedSectionVars false
set_option linter.unnecessarySimpa false
open Go
variable [rn : Rnd]
section
variable {P : Program} {g : World} {n : Nat} {K : List (Nat × Value)} {Ps R : List HProp} {w : World} {d : Option Tmp} {T : TypeId} {pos : String} {af : Array Edge} {gd : Option (Nat × Bool)}
omit rn in
theorem run_part1 {e : TypeId} {l : List Value} {o : Nat} {v : Value} (ha : ∀ w, Sem.run P (isAgg e) w = .ok false w) (hs : ∀ w, Sem.run P (sizeOf e) w = .ok 1 w) (h : l[o]? = some v) (w : World) : (part e l.toArray o).run P w = .ok v w := by
  unfold part
  simp [ha, hs, h, Sem.run_bind, Result.andThen]
omit rn in
theorem run_eqI {t : TypeId} {k : IntKind} {a b : Int} {m : Nat} (hu : ∀ w, Sem.run P (underlying t) w = .ok (.int k) w) (w : World) : (Op.equalIn (m + 1) t (.int k a) (.int k b)).run P w = .ok (a == b) w := by
  unfold Op.equalIn
  simp [hu, Sem.run_bind, Result.andThen]
omit rn in
theorem run_eqS {t : TypeId} {f1 f2 : Field} {k1 k2 : IntKind} {a b c e : Int} (hu : ∀ w, Sem.run P (underlying t) w = .ok (.struct #[f1, f2]) w) (hp : P.stoodInHeld t = false) (n1 : f1.name ≠ "_") (n2 : f2.name ≠ "_") (o1 : f1.offset = 0) (o2 : f2.offset = 1)
    (u1 : ∀ w, Sem.run P (underlying f1.type) w = .ok (.int k1) w) (u2 : ∀ w, Sem.run P (underlying f2.type) w = .ok (.int k2) w) (a1 : ∀ w, Sem.run P (isAgg f1.type) w = .ok false w) (a2 : ∀ w, Sem.run P (isAgg f2.type) w = .ok false w) (w : World) :
    (Op.equal t (.agg #[.int k1 a, .int k2 b]) (.agg #[.int k1 c, .int k2 e])).run P w = .ok (decide (a = c ∧ b = e)) w := by
  have hq1 : ∀ a c w, (Op.equalIn 9999 f1.type (.int k1 a) (.int k1 c)).run P w = .ok (a == c) w := fun a c => run_eqI (m := 9998) u1
  have hq2 : ∀ b e w, (Op.equalIn 9999 f2.type (.int k2 b) (.int k2 e)).run P w = .ok (b == e) w := fun b e => run_eqI (m := 9998) u2
  show (Op.equalIn (9999 + 1) t _ _).run P w = _
  unfold Op.equalIn
  have hprog : ∀ w, Sem.run P program w = .ok P w := fun w => by simp [program, go_sem, Sem.run]
  simp [hu, hp, hprog, Sem.run_bind, Result.andThen, part, a1, a2, o1, o2, n1, n2, hq1, hq2]
  by_cases h1 : a = c <;> by_cases h2 : b = e <;> simp [h1, h2, Sem.run_bind, Result.andThen, hq1, hq2, a1, a2, o1, o2, n1, n2, part]
theorem yld_eqlS2 {t u : TypeId} {x y : Operand} {f1 f2 : Field} {k1 k2 : IntKind} {a b c e : Int} (hx : ev K x = some (.agg #[.int k1 a, .int k2 b])) (hy : ev K y = some (.agg #[.int k1 c, .int k2 e])) (hu : ∀ w, Sem.run P (underlying t) w = .ok (.struct #[f1, f2]) w) (hp : P.stoodInHeld t = false) (hg : P.eqGuardType P.depth t = false) (n1 : f1.name ≠ "_") (n2 : f2.name ≠ "_") (o1 : f1.offset = 0) (o2 : f2.offset = 1)
    (u1 : ∀ w, Sem.run P (underlying f1.type) w = .ok (.int k1) w) (u2 : ∀ w, Sem.run P (underlying f2.type) w = .ok (.int k2) w) (a1 : ∀ w, Sem.run P (isAgg f1.type) w = .ok false w) (a2 : ∀ w, Sem.run P (isAgg f2.type) w = .ok false w) :
    Yld P g n ⟨d, .binOp .eql t x y u, T, pos, af, gd⟩ K Ps (.bool (decide (a = c ∧ b = e))) :=
  yld_bin hx hy (fun w => by
    have hprog : ∀ w, Sem.run P program w = .ok P w := fun w => by simp [program, go_sem, Sem.run]
    simp [hprog, hg, eqGuard, binOp, run_eqS hu hp n1 n2 o1 o2 u1 u2 a1 a2, Sem.run_bind, Result.andThen])
theorem yld_neqS2 {t u : TypeId} {x y : Operand} {f1 f2 : Field} {k1 k2 : IntKind} {a b c e : Int} (hx : ev K x = some (.agg #[.int k1 a, .int k2 b])) (hy : ev K y = some (.agg #[.int k1 c, .int k2 e])) (hu : ∀ w, Sem.run P (underlying t) w = .ok (.struct #[f1, f2]) w) (hp : P.stoodInHeld t = false) (hg : P.eqGuardType P.depth t = false) (n1 : f1.name ≠ "_") (n2 : f2.name ≠ "_") (o1 : f1.offset = 0) (o2 : f2.offset = 1)
    (u1 : ∀ w, Sem.run P (underlying f1.type) w = .ok (.int k1) w) (u2 : ∀ w, Sem.run P (underlying f2.type) w = .ok (.int k2) w) (a1 : ∀ w, Sem.run P (isAgg f1.type) w = .ok false w) (a2 : ∀ w, Sem.run P (isAgg f2.type) w = .ok false w) :
    Yld P g n ⟨d, .binOp .neq t x y u, T, pos, af, gd⟩ K Ps (.bool (!decide (a = c ∧ b = e))) :=
  yld_bin hx hy (fun w => by
    have hprog : ∀ w, Sem.run P program w = .ok P w := fun w => by simp [program, go_sem, Sem.run]
    simp [hprog, hg, eqGuard, binOp, run_eqS hu hp n1 n2 o1 o2 u1 u2 a1 a2, Sem.run_bind, Result.andThen])
/-- A call of a function without a body, which the model answers by itself. -/
theorem yld_callX {f : FuncId} {xs : List Operand} {ts : Array TypeId} {vs : List Value} {v : Value} (hx : Evs K xs vs) (hc : ∀ w, Sem.run P (callFunc f vs.toArray) w = .ok (.value v) w) : Yld P g n ⟨d, .call ⟨.value (.func f), xs.toArray, ts⟩, T, pos, af, gd⟩ K Ps v := fun a w ka _ => by
  simp [execOp, resolve, Deferred.ofValue, Act.eval, invoke, hx.map ka, hc]
omit rn in
theorem run_indexByteS {f : FuncId} {fn : Func} (hf : P.funcs[f]? = some fn) (hname : (fn.name == "runtime.NumGoroutine") = false) (hb : fn.body.isNone = true) (hn : Extern.findNext fn = none) (he : Extern.find fn = some Extern.BytealgIndexByte.indexByte) (cs : List UInt8) (c : UInt8) (w : World) :
    Sem.run P (callFunc f [Value.string ⟨cs.toArray⟩, .int .u8 (c.toNat : Int)].toArray) w = .ok (.value (.int .i64 (Lib.indexByte cs c))) w := by
  have h := run_callFunc_extern hf hname hb hn he #[.string ⟨cs.toArray⟩, .int .u8 (c.toNat : Int)] w
  rw [Lib.run_indexByteString] at h
  simpa [Result.andThen] using h
end
end Go.Sep
