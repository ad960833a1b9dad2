/- Results of any make: slots and cells. -/
import Derived.Test.YtkakfmcjiabjjaaGreatDoorSepV
namespace Go.Sep
set_option linter.unusedVariables false
set_option linter.unusedSimpArgs false
set_option linter.unusedSectionVars false
set_option linter.unnecessarySimpa false
open Go
variable [Rnd]

section
variable {P : Program} {g : World} {n : Nat} {K : List (Nat × Value)} {Ps R : List HProp} {w : World}

inductive RV (P : Program) (K : List (Nat × Value)) (Ps : List HProp) : ResultVar → Value → Prop
  | tmp {t : Nat} {v : Value} : look K t = some v → RV P K Ps (.tmp t) v
  | cell {t ty b o : Nat} {u : TypeId} {p : Bool} {l : List Value} {v : Value} {R : List HProp} : look K t = some (.pointer (some ⟨b, o, none⟩)) → (∀ w, Sem.run P (isAgg ty) w = .ok false w) → Sel (row p b u l) Ps R → l[o]? = some v → RV P K Ps (.cell t ty) v
  | agg {t ty b o k : Nat} {u : TypeId} {p : Bool} {l vs : List Value} {R : List HProp} : look K t = some (.pointer (some ⟨b, o, none⟩)) → (∀ w, Sem.run P (isAgg ty) w = .ok true w) → (∀ w, Sem.run P (sizeOf ty) w = .ok k w) → Sel (row p b u l) Ps R → Cells l o k vs → RV P K Ps (.cell t ty) (.agg vs.toArray)

omit [Rnd] in
def rvS (tmps : Array Value) : ResultVar → Sem Value
  | .tmp t => pure (tmps.getD t undef)
  | .cell a t => do loadVar t (← asAddr (tmps.getD a undef))
omit [Rnd] in
theorem results_eq (fn : Func) (tmps : Array Value) : results fn tmps = (do let vs ← fn.results.mapM (rvS tmps); pure (if h : vs.size = 1 then vs[0] else .tuple vs)) := by
  have e : rvS tmps = fun r => (match r with | .tmp t => pure (tmps.getD t undef) | .cell a t => do loadVar t (← asAddr (tmps.getD a undef))) := funext fun r => by
    cases r <;> rfl
  rw [e]
  rfl

theorem RV.run {r : ResultVar} {v : Value} (h : RV P K Ps r v) {a : Act} (ka : Kn n K a) (s : Sat g w Ps) : (rvS a.tmps r).run P w = .ok v w := by
  cases h with
  | tmp h => unfold rvS; simp only [ka.getD h]; rfl
  | cell h ha hs hv =>
    have h1 := ka.getD h
    have h2 := s.cell hs hv
    unfold rvS
    simp only [h1]
    simp [asAddr, loadVar, ha, Sem.run_bind, Result.andThen]
    simp [Sem.run, h2]
  | agg h ha hk hs hv =>
    have h1 := ka.getD h
    have h' := run_load_cells (P := P) (w := w) (fun j v hj => s.cell hs (hv.at j v hj))
    rw [hv.length] at h'
    unfold rvS
    simp only [h1]
    simp [asAddr, loadVar, ha, hk, h', Sem.run_bind, Result.andThen]

theorem resultsV1 {fn : Func} {r1 : ResultVar} {v1 : Value} (hr : fn.results = #[r1]) (h1 : RV P K Ps r1 v1) :
    ∀ a, Kn n K a → ∀ w, Sat g w Ps → (results fn a.tmps).run P w = .ok v1 w := fun a ka w s => by
  have e1 := h1.run ka s
  rw [results_eq, hr]
  simp [Sem.run_bind, Result.andThen, e1]
theorem resultsV2 {fn : Func} {r1 r2 : ResultVar} {v1 v2 : Value} (hr : fn.results = #[r1, r2]) (h1 : RV P K Ps r1 v1) (h2 : RV P K Ps r2 v2) :
    ∀ a, Kn n K a → ∀ w, Sat g w Ps → (results fn a.tmps).run P w = .ok (.tuple #[v1, v2]) w := fun a ka w s => by
  have e1 := h1.run ka s
  have e2 := h2.run ka s
  rw [results_eq, hr]
  simp [Sem.run_bind, Result.andThen, e1, e2]
theorem resultsV3 {fn : Func} {r1 r2 r3 : ResultVar} {v1 v2 v3 : Value} (hr : fn.results = #[r1, r2, r3]) (h1 : RV P K Ps r1 v1) (h2 : RV P K Ps r2 v2) (h3 : RV P K Ps r3 v3) :
    ∀ a, Kn n K a → ∀ w, Sat g w Ps → (results fn a.tmps).run P w = .ok (.tuple #[v1, v2, v3]) w := fun a ka w s => by
  have e1 := h1.run ka s
  have e2 := h2.run ka s
  have e3 := h3.run ka s
  rw [results_eq, hr]
  simp [Sem.run_bind, Result.andThen, e1, e2, e3]
end
end Go.Sep
