/- Assertions with parts that are only known to be there; lists of things read alike; maps with whole numbers as keys; cuts of slices. -/
import Derived.Test.YtkakfmcjiabjjaaGreatDoorSepE
namespace Go.Sep
set_option linter.unusedVariables false
set_option linter.unusedSimpArgs false
set_option linter.unusedSectionVars false
set_option linter.unnecessarySimpa false
open Go
variable [Rnd]

theorem not_true_of {b : Bool} (h : (!b) = true) : b = false := by simpa using h
theorem not_false_of {b : Bool} (h : (!b) = false) : b = true := by simpa using h

/-- For some x with φ x: the pieces m x. -/
def exL {ι : Type} (φ : ι → Prop) (m : ι → List HProp) : HProp := fun h => ∃ x, φ x ∧ sepL (m x) h

/-- R of each value and what it reads as, one behind the other. -/
def allR {α : Type} (R : Value → α → HProp) : List Value → List α → HProp
  | [], [] => emp
  | v :: vs, x :: xs => sep (R v x) (allR R vs xs)
  | _, _ => fun _ => False

section
variable {P : Program} {g : World} {n : Nat} {K : List (Nat × Value)} {Ps R : List HProp} {d : Option Tmp} {T : TypeId} {pos : String} {af : Array Edge} {gd : Option (Nat × Bool)} {w : World}

theorem Sat.exOpen {ι : Type} {φ : ι → Prop} {m : ι → List HProp} (s : Sat g w (exL φ m :: Ps)) : ∃ x, φ x ∧ Sat g w (m x ++ Ps) :=
  Sat.open_ (l := [exL φ m]) s fun h e => one_sepL.1 e
theorem Sat.exShut {ι : Type} {φ : ι → Prop} {m : ι → List HProp} (x : ι) (hx : φ x) (s : Sat g w (m x ++ Ps)) : Sat g w (exL φ m :: Ps) :=
  Sat.conseq (m := [exL φ m]) s fun h e => one_sepL.2 ⟨x, hx, e⟩

theorem Triple.openEx {f : FuncId} {args : Array Value} {ι ι' : Type} {φ : ι → Prop} {m : ι → List HProp} {Pre : List HProp} {φ' : ι' → Prop} {val : ι' → Value} {Post : ι' → List HProp}
    (h : ∀ x, φ x → Triple P f args (m x ++ Pre) ι' φ' val Post) : Triple P f args (exL φ m :: Pre) ι' φ' val Post := fun g w F s => by
  obtain ⟨x, hx, s'⟩ := Sat.exOpen (Ps := Pre ++ F) s
  exact h x hx g w F (by rw [List.append_assoc]; exact s')

theorem sep_one {A B : HProp} {h : Hp} (x : sep A B h) : sepL [A, B] h := sep_mono (fun _ a => a) (fun _ b => one_sepL.2 b) x
theorem sep_two {A B : HProp} {h : Hp} (x : sepL [A, B] h) : sep A B h := sep_mono (fun _ a => a) (fun _ b => one_sepL.1 b) x

theorem Sat.sepOpen {A B : HProp} (s : Sat g w (sep A B :: Ps)) : Sat g w (A :: B :: Ps) :=
  Sat.conseq (l := [sep A B]) (m := [A, B]) s fun h e => sep_one (one_sepL.1 e)
theorem Sat.sepShut {A B : HProp} (s : Sat g w (A :: B :: Ps)) : Sat g w (sep A B :: Ps) :=
  Sat.conseq (l := [A, B]) (m := [sep A B]) s fun h e => one_sepL.2 (sep_two e)
theorem Sat.noEmp (s : Sat g w (emp :: Ps)) : Sat g w Ps := Sat.conseq (l := [emp]) (m := []) s fun h e => one_sepL.1 e
theorem Sat.addEmp (s : Sat g w Ps) : Sat g w (emp :: Ps) := Sat.conseq (l := []) (m := [emp]) s fun h e => one_sepL.2 e
theorem Sat.absurd {A : HProp} (s : Sat g w (A :: Ps)) (h : ∀ k, ¬ A k) : False := by
  obtain ⟨k, ⟨h1, _, a, _⟩, _⟩ := s.mem
  exact h h1 a

section
variable {α : Type} {Rl : Value → α → HProp}

theorem Sat.allNil (s : Sat g w Ps) : Sat g w (allR Rl [] [] :: Ps) := s.addEmp

theorem Sat.allLen {vs : List Value} {xs : List α} (s : Sat g w (allR Rl vs xs :: Ps)) : vs.length = xs.length := by
  induction vs generalizing xs Ps with
  | nil =>
    cases xs with
    | nil => rfl
    | cons x xs => exact (s.absurd fun k h => h).elim
  | cons v vs ih =>
    cases xs with
    | nil => exact (s.absurd fun k h => h).elim
    | cons x xs =>
      have s' : Sat g w (allR Rl vs xs :: Rl v x :: Ps) := (Sat.sepOpen s).perm (.swap _ _ _)
      simp [ih s']

theorem Sat.allCons {v : Value} {x : α} {vs : List Value} {xs : List α} (s : Sat g w (Rl v x :: allR Rl vs xs :: Ps)) : Sat g w (allR Rl (v :: vs) (x :: xs) :: Ps) := s.sepShut
theorem Sat.allUncons {v : Value} {x : α} {vs : List Value} {xs : List α} (s : Sat g w (allR Rl (v :: vs) (x :: xs) :: Ps)) : Sat g w (Rl v x :: allR Rl vs xs :: Ps) := s.sepOpen

theorem Sat.allSnoc {v : Value} {x : α} : ∀ {vs : List Value} {xs : List α} {Ps : List HProp}, Sat g w (allR Rl vs xs :: Rl v x :: Ps) → Sat g w (allR Rl (vs ++ [v]) (xs ++ [x]) :: Ps)
  | [], [], Ps, s => Sat.allCons ((s.noEmp.addEmp).perm (.swap _ _ _))
  | [], _ :: _, _, s => (s.absurd fun k h => h).elim
  | _ :: _, [], _, s => (s.absurd fun k h => h).elim
  | u :: vs, y :: xs, Ps, s => by
    have s1 := Sat.allUncons s
    have s2 : Sat g w (allR Rl vs xs :: Rl v x :: Rl u y :: Ps) := s1.perm ((List.Perm.swap _ _ _).trans (.cons _ (.swap _ _ _)))
    have s3 := Sat.allSnoc s2
    exact Sat.allCons (s3.perm (.swap _ _ _))

theorem Sat.allApp {us : List Value} {ys : List α} : ∀ {vs : List Value} {xs : List α} {Ps : List HProp}, Sat g w (allR Rl vs xs :: allR Rl us ys :: Ps) → Sat g w (allR Rl (vs ++ us) (xs ++ ys) :: Ps)
  | [], [], Ps, s => s.noEmp
  | [], _ :: _, _, s => (s.absurd fun k h => h).elim
  | _ :: _, [], _, s => (s.absurd fun k h => h).elim
  | u :: vs, y :: xs, Ps, s => by
    have s1 := Sat.allUncons s
    have s2 : Sat g w (allR Rl vs xs :: allR Rl us ys :: Rl u y :: Ps) := s1.perm ((List.Perm.swap _ _ _).trans (.cons _ (.swap _ _ _)))
    have s3 := Sat.allApp s2
    exact Sat.allCons (s3.perm (.swap _ _ _))

theorem Sat.allDrop : ∀ (k : Nat) {vs : List Value} {xs : List α} {Ps : List HProp}, Sat g w (allR Rl vs xs :: Ps) → Sat g w (allR Rl (vs.drop k) (xs.drop k) :: Ps)
  | 0, _, _, _, s => s
  | k + 1, [], [], _, s => s
  | k + 1, [], _ :: _, _, s => (s.absurd fun k h => h).elim
  | k + 1, _ :: _, [], _, s => (s.absurd fun k h => h).elim
  | k + 1, v :: vs, x :: xs, Ps, s => Sat.allDrop k (Sat.drop (l := [Rl v x]) (Sat.allUncons s))

/-- Element number i taken out for a while (where its kind may be read twice). -/
theorem Sat.allGet (hd : ∀ v x, Dup (Rl v x)) {v : Value} {x : α} : ∀ {vs : List Value} {xs : List α} {i : Nat} {Ps : List HProp}, vs[i]? = some v → xs[i]? = some x → Sat g w (allR Rl vs xs :: Ps) → Sat g w (Rl v x :: allR Rl vs xs :: Ps)
  | [], _, _, _, h, _, _ => by simp at h
  | _ :: _, [], _, _, _, h, _ => by simp at h
  | u :: vs, y :: xs, 0, Ps, h1, h2, s => by
    simp at h1 h2
    subst h1 h2
    have s1 := (Sat.allUncons s).dup (hd _ _)
    exact (Sat.allCons (s1.perm (.refl _) |>.perm (List.Perm.refl _) |> fun (s : Sat g w (Rl u y :: Rl u y :: allR Rl vs xs :: Ps)) => s.perm (((List.Perm.cons _ (.swap _ _ _)).trans (.swap _ _ _)).trans ((List.Perm.swap _ _ _).trans (.cons _ (.swap _ _ _)))) |> fun s => s.perm ((List.Perm.cons _ (.swap _ _ _))) |> fun s => s)) |> fun s => s.perm (.swap _ _ _)
  | u :: vs, y :: xs, i + 1, Ps, h1, h2, s => by
    simp at h1 h2
    have s1 : Sat g w (allR Rl vs xs :: Rl u y :: Ps) := (Sat.allUncons s).perm (.swap _ _ _)
    have s2 := Sat.allGet hd h1 h2 s1
    have s3 : Sat g w (Rl u y :: allR Rl vs xs :: Rl v x :: Ps) := s2.perm (by
      refine (List.Perm.cons _ (.swap _ _ _)).trans ?_
      refine (List.Perm.swap _ _ _).trans ?_
      exact .cons _ (.swap _ _ _))
    exact (Sat.allCons s3).perm (.swap _ _ _)

/-- Element number i struck. -/
theorem Sat.allErase : ∀ (i : Nat) {vs : List Value} {xs : List α} {Ps : List HProp}, Sat g w (allR Rl vs xs :: Ps) → Sat g w (allR Rl (vs.eraseIdx i) (xs.eraseIdx i) :: Ps)
  | _, [], [], _, s => by simpa using s
  | _, [], _ :: _, _, s => (s.absurd fun k h => h).elim
  | _, _ :: _, [], _, s => (s.absurd fun k h => h).elim
  | 0, v :: vs, x :: xs, Ps, s => Sat.drop (l := [Rl v x]) (Sat.allUncons s)
  | i + 1, v :: vs, x :: xs, Ps, s => by
    have s1 := Sat.allUncons s
    have s2 : Sat g w (allR Rl vs xs :: Rl v x :: Ps) := s1.perm (.swap _ _ _)
    have s3 := Sat.allErase i s2
    exact Sat.allCons (s3.perm (.swap _ _ _))

/-- Each turned alike. -/
theorem Sat.allMap {β : Type} {Rl' : Value → β → HProp} {f : α → β} (hf : ∀ v x (Ps : List HProp), Sat g w (Rl v x :: Ps) → Sat g w (Rl' v (f x) :: Ps)) : ∀ {vs : List Value} {xs : List α} {Ps : List HProp}, Sat g w (allR Rl vs xs :: Ps) → Sat g w (allR Rl' vs (xs.map f) :: Ps)
  | [], [], _, s => s
  | [], _ :: _, _, s => (s.absurd fun k h => h).elim
  | _ :: _, [], _, s => (s.absurd fun k h => h).elim
  | v :: vs, x :: xs, Ps, s => by
    have s1 := hf _ _ _ (Sat.allUncons s)
    have s2 := Sat.allMap hf (s1.perm (.swap _ _ _))
    exact Sat.allCons (s2.perm (.swap _ _ _))

theorem dup_emp : Dup emp := fun h e b x hx => by have : h = Hp.empty := e; subst this; cases hx
theorem dup_sep {A B : HProp} (a : Dup A) (b : Dup B) : Dup (sep A B) := by
  rintro h ⟨h1, h2, x, y, _, rfl⟩ c u hu
  cases e : h1 c with
  | none => simp [Hp.union, e] at hu; exact b _ y c u hu
  | some v => simp [Hp.union, e] at hu; subst hu; exact a _ x c _ e
theorem dup_all (hd : ∀ v x, Dup (Rl v x)) : ∀ (vs : List Value) (xs : List α), Dup (allR Rl vs xs)
  | [], [] => dup_emp
  | [], _ :: _ => fun _ h => h.elim
  | _ :: _, [] => fun _ h => h.elim
  | v :: vs, x :: xs => dup_sep (hd v x) (dup_all hd vs xs)
end

/-- Bytes. -/
def bv (b : UInt8) : Value := .int .u8 b.toNat
def byt (t : TypeId) (p : Bool) (v : Value) (bs : List UInt8) : HProp :=
  exL (ι := Option Addr × Nat × Nat) (fun r => v = .slice r.1 r.2.1 r.2.2) (fun r => [sl p t 1 r.1 r.2.1 r.2.2 (bs.map bv)])

theorem dup_sepL : ∀ {l : List HProp}, (∀ A ∈ l, Dup A) → Dup (sepL l)
  | [], _ => dup_emp
  | A :: l, h => dup_sep (h A (by simp)) (dup_sepL fun B hB => h B (by simp [hB]))
theorem dup_exL {ι : Type} {φ : ι → Prop} {m : ι → List HProp} (h : ∀ x, ∀ A ∈ m x, Dup A) : Dup (exL φ m) := by
  rintro k ⟨x, _, e⟩
  exact dup_sepL (h x) k e
theorem dup_byt (t : TypeId) (v : Value) (bs : List UInt8) : Dup (byt t false v bs) := dup_exL fun x A hA => by
  simp at hA; subst hA; exact dup_sl _ _ _ _ _ _

theorem Sat.bytOpen {t : TypeId} {p : Bool} {v : Value} {bs : List UInt8} (s : Sat g w (byt t p v bs :: Ps)) : ∃ ad len cap, v = .slice ad len cap ∧ len = bs.length ∧ Sat g w (sl p t 1 ad len cap (bs.map bv) :: Ps) := by
  obtain ⟨⟨ad, len, cap⟩, h, s'⟩ := s.exOpen
  have := Sat.slLen s'
  exact ⟨ad, len, cap, h, by have h := this.1; simp at h; exact h.symm, s'⟩
theorem Sat.bytShut {t : TypeId} {p : Bool} {ad : Option Addr} {len cap : Nat} {bs : List UInt8} (s : Sat g w (sl p t 1 ad len cap (bs.map bv) :: Ps)) : Sat g w (byt t p (.slice ad len cap) bs :: Ps) :=
  Sat.exShut (ι := Option Addr × Nat × Nat) (ad, len, cap) rfl s
theorem Sat.bytFreeze {t : TypeId} {v : Value} {bs : List UInt8} (s : Sat g w (byt t true v bs :: Ps)) : Sat g w (byt t false v bs :: Ps) := by
  obtain ⟨ad, len, cap, rfl, _, s'⟩ := s.bytOpen
  exact s'.slFreeze.bytShut

/-- One of many byte slices, to be read. -/
theorem Sat.allByt {t : TypeId} {vs : List Value} {xs : List (List UInt8)} {k : Nat} {bs : List UInt8} (hx : xs[k]? = some bs) (s : Sat g w (allR (byt t false) vs xs :: Ps)) :
    ∃ r : Option Addr × Nat × Nat, (vs[k]? = some (.slice r.1 r.2.1 r.2.2) ∧ r.2.1 = bs.length) ∧ Sat g w (sl false t 1 r.1 r.2.1 r.2.2 (bs.map bv) :: allR (byt t false) vs xs :: Ps) := by
  have hl := s.allLen
  have hk : k < xs.length := by
    rcases Nat.lt_or_ge k xs.length with h | h
    · exact h
    · simp [List.getElem?_eq_none h] at hx
  have hv : vs[k]? = some vs[k] := List.getElem?_eq_getElem (by omega)
  obtain ⟨ad, len, cap, h1, h2, s'⟩ := (Sat.allGet (dup_byt t) hv hx s).bytOpen
  exact ⟨(ad, len, cap), ⟨by rw [hv, h1], h2⟩, s'⟩

theorem WK.openS {Q : Exit → Act → World → Prop} {ks : List Code} {ι : Type} {φ : ι → Prop} {Ps' : ι → List HProp} (f : ∀ w, Sat g w Ps → ∃ x, φ x ∧ Sat g w (Ps' x)) (h : ∀ x, φ x → WK P Q g n ks K (Ps' x)) : WK P Q g n ks K Ps := fun a w ka s => by
  obtain ⟨x, hx, s'⟩ := f w s
  exact h x hx a w ka s'
theorem WL.openS {ops : Array Oper} {Q : Exit → Act → World → Prop} {l : List Oper} {ι : Type} {φ : ι → Prop} {Ps' : ι → List HProp} (f : ∀ w, Sat g w Ps → ∃ x, φ x ∧ Sat g w (Ps' x)) (h : ∀ x, φ x → WL P ops Q g n l K (Ps' x)) : WL P ops Q g n l K Ps := fun a w ka s => by
  obtain ⟨x, hx, s'⟩ := f w s
  exact h x hx a w ka s'
theorem WO.openS {ops : Array Oper} {Q : Exit → Act → World → Prop} {Cs : List HProp} {l : List (Nat × Nat)} {ι : Type} {φ : ι → Prop} {Ps' : ι → List HProp} (f : ∀ w, Sat g w Ps → ∃ x, φ x ∧ Sat g w (Ps' x)) (h : ∀ x, φ x → WO P ops Q g n Cs l K (Ps' x)) : WO P ops Q g n Cs l K Ps := fun a w ka s => by
  obtain ⟨x, hx, s'⟩ := f w s
  exact h x hx a w ka s'

/-! ### Maps with whole numbers as keys -/

inductive Rep : List MapEntry → List (Int × Value) → Prop
  | nil : Rep [] []
  | cons {e : MapEntry} {k : Int} {v : Value} {es : List MapEntry} {m : List (Int × Value)} : e.key = .int .i64 k → e.val = v → Rep es m → Rep (e :: es) ((k, v) :: m)

def mget {α : Type} (m : List (Int × α)) (k : Int) : Option α := match m with
  | [] => none
  | (j, v) :: m => if j = k then some v else mget m k
def mset {α : Type} (m : List (Int × α)) (k : Int) (v : α) : List (Int × α) := match m with
  | [] => [(k, v)]
  | (j, u) :: m => if j = k then (k, v) :: m else (j, u) :: mset m k v
def mdel {α : Type} (m : List (Int × α)) (k : Int) : List (Int × α) := match m with
  | [] => []
  | (j, u) :: m => if j = k then m else (j, u) :: mdel m k

/-- Two maps with the same keys in the same places. -/
theorem mget_keys {α β : Type} : ∀ {m : List (Int × α)} {m' : List (Int × β)} {k : Int}, m.map (·.1) = m'.map (·.1) → (mget m k = none ↔ mget m' k = none) ∧
    (∀ x, mget m' k = some x → ∃ i v, mget m k = some v ∧ (m.map (·.2))[i]? = some v ∧ (m'.map (·.2))[i]? = some x ∧ (mdel m k).map (·.2) = (m.map (·.2)).eraseIdx i ∧ (mdel m' k).map (·.2) = (m'.map (·.2)).eraseIdx i ∧ (mdel m k).map (·.1) = (mdel m' k).map (·.1))
  | [], [], k, _ => ⟨by simp [mget], fun x h => by simp [mget] at h⟩
  | [], _ :: _, k, h => by simp at h
  | _ :: _, [], k, h => by simp at h
  | (j, v) :: m, (j', v') :: m', k, h => by
    simp at h
    obtain ⟨rfl, h⟩ := h
    obtain ⟨ih1, ih2⟩ := mget_keys (k := k) h
    by_cases e : j = k
    · subst e
      refine ⟨by simp [mget], fun x hx => ?_⟩
      simp [mget] at hx
      subst hx
      exact ⟨0, v, by simp [mget], rfl, rfl, by simp [mdel], by simp [mdel], by simp [mdel, h]⟩
    · refine ⟨by simp [mget, e, ih1], fun x hx => ?_⟩
      simp [mget, e] at hx
      obtain ⟨i, u, h1, h2, h3, h4, h5, h6⟩ := ih2 x hx
      exact ⟨i + 1, u, by simp [mget, e, h1], by simpa using h2, by simpa using h3, by simp [mdel, e, h4], by simp [mdel, e, h5], by simp [mdel, e, h6]⟩

theorem mset_none {α : Type} : ∀ {m : List (Int × α)} {k : Int} {v : α}, mget m k = none → mset m k v = m ++ [(k, v)]
  | [], _, _, _ => rfl
  | (j, u) :: m, k, v, h => by
    by_cases e : j = k
    · simp [mget, e] at h
    · simp [mget, e] at h; simp [mset, e, mset_none h]

theorem mdel_length {α : Type} : ∀ {m : List (Int × α)} {k : Int} {x : α}, mget m k = some x → (mdel m k).length + 1 = m.length
  | [], _, _, h => by simp [mget] at h
  | (j, u) :: m, k, x, h => by
    by_cases e : j = k
    · simp [mdel, e]
    · simp [mget, e] at h; simp [mdel, e, mdel_length h]

theorem mdel_none {α : Type} : ∀ {m : List (Int × α)} {k : Int}, mget m k = none → mdel m k = m
  | [], _, _ => rfl
  | (j, u) :: m, k, h => by
    by_cases e : j = k
    · simp [mget, e] at h
    · simp [mget, e] at h; simp [mdel, e, mdel_none h]

structure Born (es : List MapEntry) (clock : Nat) : Prop where
  nodup : (es.map (·.born)).Nodup
  lt : ∀ e ∈ es, e.born < clock

def mapI (p : Bool) (b : Nat) (m : List (Int × Value)) : HProp :=
  exL (ι := List MapEntry × Nat) (fun x => Rep x.1 m ∧ Born x.1 x.2) (fun x => [mapO p b x.1 x.2])

theorem findNow_rep {kd : IntKind} {k : Int} : ∀ {es : List MapEntry} {m : List (Int × Value)} (i : Nat), Rep es m →
    (mget m k = none → Instr.findNow (.int kd) (.int .i64 k) es i = some none) ∧
    (∀ v, mget m k = some v → ∃ j e, es[j]? = some e ∧ e.key = .int .i64 k ∧ Instr.findNow (.int kd) (.int .i64 k) es i = some (some (i + j, v)) ∧
      (∀ u, Rep (es.set j { e with key := .int .i64 k, val := u }) (mset m k u)) ∧ Rep (es.eraseIdx j) (mdel m k))
  | _, _, i, .nil => ⟨fun _ => rfl, fun v h => by simp [mget] at h⟩
  | _, _, i, .cons (e := e) (k := k') (v := v') (es := es) (m := m) h1 h2 h3 => by
    obtain ⟨ih1, ih2⟩ := findNow_rep (kd := kd) (k := k) (i + 1) h3
    by_cases hk : k' = k
    · subst hk
      refine ⟨fun h => by simp [mget] at h, fun v h => ?_⟩
      simp [mget] at h
      subst h h2
      refine ⟨0, e, rfl, h1, by simp [Instr.findNow, Instr.sameNow, h1], fun u => ?_, ?_⟩
      · simp [mset]; exact .cons rfl rfl h3
      · simp [mdel]; exact h3
    · have hs : Instr.sameNow (.int kd) (.int .i64 k) e.key = some false := by simp [Instr.sameNow, h1]; omega
      refine ⟨fun h => ?_, fun v h => ?_⟩
      · simp [mget, hk] at h
        simp [Instr.findNow, hs, ih1 h]
      · simp [mget, hk] at h
        obtain ⟨j, e', he, hke, hf, hset, hdel⟩ := ih2 v h
        refine ⟨j + 1, e', by simpa using he, hke, by simp [Instr.findNow, hs, hf]; omega, fun u => ?_, ?_⟩
        · simp [mset, hk]; exact .cons h1 h2 (hset u)
        · simp [mdel, hk]; exact .cons h1 h2 hdel

theorem Rep.snoc {es : List MapEntry} {m : List (Int × Value)} {k : Int} {v : Value} {c : Nat} (h : Rep es m) (hk : mget m k = none) : Rep (es ++ [⟨.int .i64 k, v, c⟩]) (mset m k v) := by
  induction h with
  | nil => exact .cons rfl rfl .nil
  | @cons e k' v' es m h1 h2 _ ih =>
    by_cases e' : k' = k
    · simp [mget, e'] at hk
    · simp [mget, e'] at hk
      simp [mset, e']
      exact .cons h1 h2 (ih hk)

theorem run_checkKeyInt {kt : TypeId} {kd : IntKind} (hk : ∀ w, Sem.run P (underlying kt) w = .ok (.int kd) w) (em : Bool) (k : Int) (w : World) : (Instr.checkKey em 10000 kt (.int .i64 k)).run P w = .ok () w := by
  have : ∀ n, (Instr.checkKey em (n + 1) kt (.int .i64 k)).run P w = .ok () w := fun n => by
    unfold Instr.checkKey
    simp [hk]
  exact this 9999

theorem run_findKeyInt {kt : TypeId} {kd : IntKind} (hk : ∀ w, Sem.run P (underlying kt) w = .ok (.int kd) w) {k : Int} {es : List MapEntry} {r : Option (Nat × Value)} (h : Instr.findNow (.int kd) (.int .i64 k) es 0 = some r) (w : World) : (Instr.findKey kt (.int .i64 k) es).run P w = .ok r w := by
  simp [Instr.findKey, hk, h]

theorem Sat.mapGet {p : Bool} {b : Nat} {es : List MapEntry} {c : Nat} (s : Sat g w (mapO p b es c :: Ps)) : w.heap[b]? = some (.map es.toArray c) := Sat.get s

theorem Sat.mapI {p : Bool} {b : Nat} {m : List (Int × Value)} (s : Sat g w (mapI p b m :: Ps)) : ∃ es c, Rep es m ∧ Born es c ∧ Sat g w (mapO p b es c :: Ps) := by
  obtain ⟨⟨es, c⟩, ⟨h1, h2⟩, s'⟩ := s.exOpen
  exact ⟨es, c, h1, h2, s'⟩

theorem Sat.mapNew {b : Nat} (s : Sat g w (mapO true b [] 0 :: Ps)) : Sat g w (Sep.mapI true b [] :: Ps) :=
  Sat.exShut (ι := List MapEntry × Nat) ([], 0) ⟨.nil, ⟨by simp, by simp⟩⟩ s

theorem yld_lookup_some {t kt et : TypeId} {x y : Operand} {kd : IntKind} {p : Bool} {b : Nat} {m : List (Int × Value)} {k : Int} {v : Value} (hx : ev K x = some (.map (some b))) (hy : ev K y = some (.int .i64 k)) (hu : ∀ w, Sem.run P (underlying t) w = .ok (.map kt et) w) (hk : ∀ w, Sem.run P (underlying kt) w = .ok (.int kd) w)
    (hs : Sel (mapI p b m) Ps R) (hm : mget m k = some v) : Yld P g n ⟨d, .lookup t x y true, T, pos, af, gd⟩ K Ps (.tuple #[v, .bool true]) := fun a w ka s => by
  obtain ⟨es, c, hr, hb, s'⟩ := (s.sel1 hs).mapI
  obtain ⟨j, e, _, _, hf, _⟩ := (findNow_rep (kd := kd) (k := k) 0 hr).2 v hm
  have hg : (getObj b).run P w = .ok (.map es.toArray c) w := by simp [getObj, Sem.run, s'.mapGet]
  simp [execOp, ka.ev hx, ka.ev hy, Instr.lookup, hu, hg, run_checkKeyInt hk, run_findKeyInt hk hf]

theorem yld_lookup_none {t kt et : TypeId} {x y : Operand} {kd : IntKind} {p : Bool} {b : Nat} {m : List (Int × Value)} {k : Int} {z : Value} (hx : ev K x = some (.map (some b))) (hy : ev K y = some (.int .i64 k)) (hu : ∀ w, Sem.run P (underlying t) w = .ok (.map kt et) w) (hk : ∀ w, Sem.run P (underlying kt) w = .ok (.int kd) w)
    (hz : ∀ w, Sem.run P (zeroValue et) w = .ok z w) (hs : Sel (mapI p b m) Ps R) (hm : mget m k = none) : Yld P g n ⟨d, .lookup t x y true, T, pos, af, gd⟩ K Ps (.tuple #[z, .bool false]) := fun a w ka s => by
  obtain ⟨es, c, hr, hb, s'⟩ := (s.sel1 hs).mapI
  have hf := (findNow_rep (kd := kd) (k := k) 0 hr).1 hm
  have hg : (getObj b).run P w = .ok (.map es.toArray c) w := by simp [getObj, Sem.run, s'.mapGet]
  simp [execOp, ka.ev hx, ka.ev hy, Instr.lookup, hu, hg, run_checkKeyInt hk, run_findKeyInt hk hf, hz]

theorem yld_lookup {t kt et : TypeId} {x y : Operand} {kd : IntKind} {p : Bool} {b : Nat} {m : List (Int × Value)} {k : Int} {z : Value} (hx : ev K x = some (.map (some b))) (hy : ev K y = some (.int .i64 k)) (hu : ∀ w, Sem.run P (underlying t) w = .ok (.map kt et) w) (hk : ∀ w, Sem.run P (underlying kt) w = .ok (.int kd) w)
    (hz : ∀ w, Sem.run P (zeroValue et) w = .ok z w) (hs : Sel (mapI p b m) Ps R) : Yld P g n ⟨d, .lookup t x y true, T, pos, af, gd⟩ K Ps (.tuple #[(mget m k).getD z, .bool (mget m k).isSome]) := by
  cases hm : mget m k with
  | none => exact yld_lookup_none hx hy hu hk hz hs hm
  | some v => exact yld_lookup_some hx hy hu hk hs hm

theorem Sat.setObj {b : Nat} {es es' : List MapEntry} {c c' : Nat} (s : Sat g w (mapO true b es c :: Ps)) : Sat g { w with heap := w.heap.setIfInBounds b (.map es'.toArray c') } (mapO true b es' c' :: Ps) := by
  have hlt : b < w.heap.size := Sat.lt s
  refine Sat.put s rfl rfl rfl (by simp) ?_ (fun k hk => ?_)
  · simp [hlt]
  · simp only []
    rw [Array.getElem?_setIfInBounds_ne (fun e => hk e.symm)]

theorem sameBits_int (k : Int) : Instr.sameBits 10000 (.int .i64 k) (.int .i64 k) = true := by
  have : ∀ n, Instr.sameBits n (.int .i64 k) (.int .i64 k) = true := fun n => by cases n <;> simp [Instr.sameBits]
  exact this _

theorem eff_mapUpdate {t kt et : TypeId} {x y z : Operand} {kd : IntKind} {b : Nat} {m : List (Int × Value)} {k : Int} {v : Value} (hx : ev K x = some (.map (some b))) (hy : ev K y = some (.int .i64 k)) (hz : ev K z = some v) (hu : ∀ w, Sem.run P (underlying t) w = .ok (.map kt et) w) (hk : ∀ w, Sem.run P (underlying kt) w = .ok (.int kd) w)
    (hs : Sel (mapI true b m) Ps R) : Eff P g n ⟨none, .mapUpdate t x y z, T, pos, af, gd⟩ K Ps Unit (fun _ => True) (fun _ => undef) (fun _ => mapI true b (mset m k v) :: R) := fun a w ka s next Q h => by
  obtain ⟨es, c, hr, hb, s'⟩ := (s.sel1 hs).mapI
  have hg : (getObj b).run P w = .ok (.map es.toArray c) w := by simp [getObj, Sem.run, s'.mapGet]
  have hso : ∀ o, (setObj b o).run P w = .ok () { w with heap := w.heap.setIfInBounds b o } := fun o => by simp [Go.setObj, Sem.run, s'.mapGet]
  obtain ⟨f1, f2⟩ := findNow_rep (kd := kd) (k := k) 0 hr
  unfold Oper.wp
  cases hm : mget m k with
  | none =>
    have e : (execOp a.eval ⟨none, .mapUpdate t x y z, T, pos, af, gd⟩).run P w = .ok .skip { w with heap := w.heap.setIfInBounds b (.map (es ++ [(⟨.int .i64 k, v, c⟩ : MapEntry)]).toArray (c + 1)) } := by
      simp [execOp, ka.ev hx, ka.ev hy, ka.ev hz, Instr.mapUpdate, hu, hg, run_checkKeyInt hk, run_findKeyInt hk (f1 hm), hso]
    rw [e]
    refine h () _ trivial ?_
    refine Sat.exShut (ι := List MapEntry × Nat) (es ++ [⟨.int .i64 k, v, c⟩], c + 1) ⟨hr.snoc hm, ?_, ?_⟩ s'.setObj
    · rw [List.map_append, List.nodup_append]
      refine ⟨hb.nodup, by simp, ?_⟩
      intro u hu1 u' hu2
      simp at hu2
      obtain ⟨e1, he1, rfl⟩ := List.mem_map.1 hu1
      have := hb.lt e1 he1
      omega
    · intro e1 he1
      rcases List.mem_append.1 he1 with h1 | h1
      · have := hb.lt e1 h1; omega
      · simp at h1; subst h1; simp
  | some u =>
    obtain ⟨j, e1, he, hke, hf, hset, _⟩ := f2 u hm
    have hjl : j < es.length := by
      rcases Nat.lt_or_ge j es.length with h1 | h1
      · exact h1
      · simp [List.getElem?_eq_none h1] at he
    have hej : es[j] = e1 := by rw [List.getElem?_eq_getElem hjl] at he; simpa using he
    have hmod : es.toArray.modify j (fun e => { e with key := .int .i64 k, val := v }) = (es.set j { e1 with key := .int .i64 k, val := v }).toArray := by
      apply Array.ext'
      simp only [Array.toList_modify]
      apply List.ext_getElem?
      intro i
      simp only [List.getElem?_modify, List.getElem?_set]
      by_cases hij : j = i
      · subst hij; simp [hjl, hej]
      · simp [hij]
    have e : (execOp a.eval ⟨none, .mapUpdate t x y z, T, pos, af, gd⟩).run P w = .ok .skip { w with heap := w.heap.setIfInBounds b (.map (es.set j { e1 with key := .int .i64 k, val := v }).toArray c) } := by
      rw [← hmod]
      simp only [Nat.zero_add] at hf
      simp [execOp, ka.ev hx, ka.ev hy, ka.ev hz, Instr.mapUpdate, hu, hg, run_checkKeyInt hk, run_findKeyInt hk hf, hso, Instr.keyThatStays, he, hke, sameBits_int]
    rw [e]
    refine h () _ trivial ?_
    refine Sat.exShut (ι := List MapEntry × Nat) (es.set j { e1 with key := .int .i64 k, val := v }, c) ⟨hset v, ?_, ?_⟩ s'.setObj
    · have : (es.set j { e1 with key := .int .i64 k, val := v }).map (·.born) = es.map (·.born) := by
        rw [List.map_set]
        apply List.ext_getElem?
        intro i
        rw [List.getElem?_set]
        split
        · rename_i hij; subst hij; simp [hjl, hej]
        · rfl
      rw [this]; exact hb.nodup
    · intro e2 he2
      rcases List.mem_or_eq_of_mem_set he2 with h1 | h1
      · exact hb.lt e2 h1
      · subst h1; exact hb.lt e1 (List.mem_of_getElem? he)

theorem eff_delete {t kt et : TypeId} {x y : Operand} {kd : IntKind} {b : Nat} {m : List (Int × Value)} {k : Int} {ts : Array TypeId} (hts : ts[0]? = some t) (hx : ev K x = some (.map (some b))) (hy : ev K y = some (.int .i64 k)) (hu : ∀ w, Sem.run P (underlying t) w = .ok (.map kt et) w) (hk : ∀ w, Sem.run P (underlying kt) w = .ok (.int kd) w)
    (hs : Sel (mapI true b m) Ps R) : Eff P g n ⟨d, .call ⟨.builtin .delete, #[x, y], ts⟩, T, pos, af, gd⟩ K Ps Unit (fun _ => True) (fun _ => .tuple #[]) (fun _ => mapI true b (mdel m k) :: R) := fun a w ka s next Q h => by
  obtain ⟨es, c, hr, hb, s'⟩ := (s.sel1 hs).mapI
  have hg : (getObj b).run P w = .ok (.map es.toArray c) w := by simp [getObj, Sem.run, s'.mapGet]
  have hso : ∀ o, (setObj b o).run P w = .ok () { w with heap := w.heap.setIfInBounds b o } := fun o => by simp [Go.setObj, Sem.run, s'.mapGet]
  obtain ⟨f1, f2⟩ := findNow_rep (kd := kd) (k := k) 0 hr
  unfold Oper.wp
  cases hm : mget m k with
  | none =>
    have e : (execOp a.eval ⟨d, .call ⟨.builtin .delete, #[x, y], ts⟩, T, pos, af, gd⟩).run P w = .ok (.value (.tuple #[])) { w with heap := w.heap.setIfInBounds b (.map es.toArray c) } := by
      simp [execOp, resolve, invoke, builtin, ka.ev hx, ka.ev hy, Builtin.delete_, hts, hu, hg, run_checkKeyInt hk, run_findKeyInt hk (f1 hm), hso]
    rw [e]
    refine h () _ trivial ?_
    rw [mdel_none hm]
    exact Sat.exShut (ι := List MapEntry × Nat) (es, c) ⟨hr, hb⟩ s'.setObj
  | some u =>
    obtain ⟨j, e1, he, hke, hf, _, hdel⟩ := f2 u hm
    have hjl : j < es.length := by
      rcases Nat.lt_or_ge j es.length with h1 | h1
      · exact h1
      · simp [List.getElem?_eq_none h1] at he
    have e : (execOp a.eval ⟨d, .call ⟨.builtin .delete, #[x, y], ts⟩, T, pos, af, gd⟩).run P w = .ok (.value (.tuple #[])) { w with heap := w.heap.setIfInBounds b (.map (es.eraseIdx j).toArray c) } := by
      simp only [Nat.zero_add] at hf
      simp [execOp, resolve, invoke, builtin, ka.ev hx, ka.ev hy, Builtin.delete_, hts, hu, hg, run_checkKeyInt hk, run_findKeyInt hk hf, hso, Array.eraseIdxIfInBounds, hjl]
    rw [e]
    refine h () _ trivial ?_
    refine Sat.exShut (ι := List MapEntry × Nat) (es.eraseIdx j, c) ⟨hdel, ?_, fun e2 he2 => hb.lt e2 (List.mem_of_mem_eraseIdx he2)⟩ s'.setObj
    exact hb.nodup.sublist ((List.eraseIdx_sublist es j).map _)

end
end Go.Sep
