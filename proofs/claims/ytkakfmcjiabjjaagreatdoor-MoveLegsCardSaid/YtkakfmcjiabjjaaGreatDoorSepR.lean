/- Calls of function values; iterators (functions that are handed yield); a range over a function. -/
import Derived.Test.YtkakfmcjiabjjaaGreatDoorSepK
namespace Go.Sep
set_option linter.unusedVariables false
set_option linter.unusedSimpArgs false
set_option linter.unusedSectionVars false
set_option linter.unnecessarySimpa false
open Go
variable [rn : Rnd]

section
variable {P : Program} {g : World} {n : Nat} {K : List (Nat × Value)} {Ps R : List HProp} {d : Option Tmp} {T : TypeId} {pos : String} {af : Array Edge} {gd : Option (Nat × Bool)} {w : World}

/-- A call of a function value: what it has captured comes behind the arguments. -/
theorem eff_callV {f : FuncId} {y : Operand} {caps : List Value} {xs : List Operand} {ts : Array TypeId} {vs : List Value} {Pre : List HProp} {ι : Type} {φ : ι → Prop} {val : ι → Value} {Post : ι → List HProp} (hy : ev K y = some (.func (.func f) #[] caps.toArray)) (hc : ∀ args w, Sem.run P (callFunc f args) w = .ok (.enter f args) w) (hx : Evs K xs vs) (hs : SelL Pre Ps R) {all : List Value} (he : vs ++ caps = all)
    (t : Triple P f all.toArray Pre ι φ val Post) : Eff P g n ⟨d, .call ⟨.value y, xs.toArray, ts⟩, T, pos, af, gd⟩ K Ps ι φ val (fun x => Post x ++ R) := fun a w ka s next Q h => by
  subst he
  unfold Oper.wp
  have e : (execOp a.eval ⟨d, .call ⟨.value y, xs.toArray, ts⟩, T, pos, af, gd⟩).run P w = .ok (.enter f (vs ++ caps).toArray) w := by
    simp [execOp, resolve, Deferred.ofValue, ka.ev hy, invoke, hx.map ka, hc]
  rw [e]
  refine (t g w R (s.sel hs)).mono ?_
  rintro e w' ⟨x, hx, rfl, s'⟩
  exact h x w' hx s'

/-- A function value with arguments that came first (a method value). -/
theorem eff_callB {f : FuncId} {y : Operand} {pre caps : List Value} {xs : List Operand} {ts : Array TypeId} {vs : List Value} {Pre : List HProp} {ι : Type} {φ : ι → Prop} {val : ι → Value} {Post : ι → List HProp} (hy : ev K y = some (.func (.func f) pre.toArray caps.toArray)) (hc : ∀ args w, Sem.run P (callFunc f args) w = .ok (.enter f args) w) (hx : Evs K xs vs) (hs : SelL Pre Ps R) {all : List Value} (he : pre ++ vs ++ caps = all)
    (t : Triple P f all.toArray Pre ι φ val Post) : Eff P g n ⟨d, .call ⟨.value y, xs.toArray, ts⟩, T, pos, af, gd⟩ K Ps ι φ val (fun x => Post x ++ R) := fun a w ka s next Q h => by
  subst he
  unfold Oper.wp
  have e : (execOp a.eval ⟨d, .call ⟨.value y, xs.toArray, ts⟩, T, pos, af, gd⟩).run P w = .ok (.enter f (pre ++ vs ++ caps).toArray) w := by
    simp [execOp, resolve, Deferred.ofValue, ka.ev hy, invoke, hx.map ka, hc]
  rw [e]
  refine (t g w R (s.sel hs)).mono ?_
  rintro e w' ⟨x, hx, rfl, s'⟩
  exact h x w' hx s'

/-! ### Iterators -/

omit rn in
/-- A call of yield at x, wherever the caller's word J b is met: it goes on with J b' or has stopped with Jx b'. -/
def Rounds (P : Program) (g : World) (l : Nat) {α : Type} (encs : α → List Value) (S : List α → Prop) {β : Type} (I Ix : List α → β → Prop) (J Jx : β → HProp) : Prop :=
  ∀ pre x b, (∃ ys, S (pre ++ x :: ys)) → I pre b → ∀ w F, Sat g w (J b :: F) →
    YieldAt Fence.wide 0 P l (encs x).toArray w fun e w' => (∃ b', I (pre ++ [x]) b' ∧ e = .returned (.bool true) ∧ Sat g w' (J b' :: F)) ∨ (∃ b', Ix (pre ++ [x]) b' ∧ e = .returned (.bool false) ∧ Sat g w' (Jx b' :: F))

omit rn in
/-- What a function does that is handed yield and what it has captured: it yields one of the lists in S, one element after the other, or a beginning of it, behind which yield said 'no more'. -/
def Iter (P : Program) (f : FuncId) (caps : List Value) (Pre : List HProp) {α : Type} (encs : α → List Value) (S : List α → Prop) : Prop :=
  ∀ (β : Type) (I Ix : List α → β → Prop) (J Jx : β → HProp) (l : Nat) (g : World), Rounds P g l encs S I Ix J Jx →
    ∀ b w F, I [] b → Sat g w (J b :: (Pre ++ F)) → Calls P f (Value.func (.yield l) #[] #[] :: caps).toArray w fun e w' =>
      ∃ v, e = .returned v ∧ ((∃ xs b', S xs ∧ I xs b' ∧ Sat g w' (J b' :: (Pre ++ F))) ∨ (∃ pre b', Ix pre b' ∧ Sat g w' (Jx b' :: (Pre ++ F))))

omit rn in
theorem Iter.of_body {f : FuncId} {fn : Func} {c : Code} {caps : List Value} {n : Nat} {Pre : List HProp} {α : Type} {encs : α → List Value} {S : List α → Prop} {v : Value}
    (hf : P.funcs[f]? = some fn) (hb : fn.body = some c) (hn : fn.ntmps = n) (hl : caps.length + 1 ≤ n)
    (h : ∀ (β : Type) (I Ix : List α → β → Prop) (J Jx : β → HProp) (l : Nat) (g : World), Rounds P g l encs S I Ix J Jx → ∀ b F, I [] b → ∀ Rr : Ending → World → Prop,
      (∀ xs b', S xs → I xs b' → ∀ w, Sat g w (J b' :: (Pre ++ F)) → Rr (.returned v) w) → (∀ pre b', Ix pre b' → ∀ w, Sat g w (Jx b' :: (Pre ++ F)) → Rr (.returned v) w) →
      @WK rnd0 P (bodyPostM Fence.wide 0 P fn Rr) g n [c] (numb 0 (.func (.yield l) #[] #[] :: caps)) (J b :: (Pre ++ F))) : Iter P f caps Pre encs S := by
  intro β I Ix J Jx l g hY b w F hI s
  have hw := h β I Ix J Jx l g hY b F hI (fun e w' => ∃ v, e = .returned v ∧ ((∃ xs b', S xs ∧ I xs b' ∧ Sat g w' (J b' :: (Pre ++ F))) ∨ (∃ pre b', Ix pre b' ∧ Sat g w' (Jx b' :: (Pre ++ F)))))
    (fun xs b' h1 h2 w s => ⟨v, rfl, .inl ⟨xs, b', h1, h2, s⟩⟩) (fun pre b' h1 w s => ⟨v, rfl, .inr ⟨pre, b', h1, s⟩⟩)
  refine (callsIn_wide (n := 0)).1 (callsIn_of_wp_marks hf hb trivial ?_)
  have hz : (Value.func (.yield l) #[] #[] :: caps).toArray.size = caps.length + 1 := by simp
  have := hw { tmps := (Value.func (.yield l) #[] #[] :: caps).toArray ++ Array.replicate (fn.ntmps - (Value.func (.yield l) #[] #[] :: caps).toArray.size) undef, defers := [] } w ⟨by rw [Array.size_append, Array.size_replicate, hz, hn]; omega, rfl, fun d v e => ?_⟩ s
  · refine Code.wpIn_mono (fun e a w q => ?_) this
    cases e <;> exact q
  · obtain ⟨_, e⟩ := look_numb _ _ _ _ e
    have hd : d < (Value.func (.yield l) #[] #[] :: caps).length := by
      rcases Nat.lt_or_ge d (Value.func (.yield l) #[] #[] :: caps).length with k | k
      · exact k
      · simp [List.getElem?_eq_none k] at e
    show ((Value.func (.yield l) #[] #[] :: caps).toArray ++ _)[d]? = some v
    rw [Array.getElem?_append_left (by simpa using hd)]
    simpa using e

/-- A call of yield. -/
theorem effR_yield {α : Type} {encs : α → List Value} {S : List α → Prop} {β : Type} {I Ix : List α → β → Prop} {J Jx : β → HProp} {l : Nat} (hY : Rounds P g l encs S I Ix J Jx) {y : Operand} {xs : List Operand} {ts : Array TypeId} {vs : List Value}
    (hy : ev K y = some (.func (.yield l) #[] #[])) (hx : Evs K xs vs) (pre : List α) (x : α) (b : β) (hv : vs = encs x) (hS : ∃ ys, S (pre ++ x :: ys)) (hI : I pre b) (hs : Sel (J b) Ps R) :
    EffR P g n ⟨d, .call ⟨.value y, xs.toArray, ts⟩, T, pos, af, gd⟩ K Ps (β × Bool) (fun z => bif z.2 then I (pre ++ [x]) z.1 else Ix (pre ++ [x]) z.1) (fun z => .bool z.2) (fun z => (bif z.2 then J z.1 else Jx z.1) :: R) := fun a w ka s next Q h => by
  refine ⟨fun _ _ => trivial, ?_⟩
  rw [Oper.semAt_eq _ _ _ (fun c e => by cases e)]
  subst hv
  obtain ⟨fn, tmps, assign, body, hy1, hR⟩ := hY pre x b hS hI w R (s.sel1 hs)
  have e : (execOp a.eval ⟨d, .call ⟨.value y, xs.toArray, ts⟩, T, pos, af, gd⟩).run P w = .ok (.round l fn tmps assign body) w := by
    simp [execOp, resolve, Deferred.ofValue, ka.ev hy, invoke, hx.map ka, hy1]
  rw [e]
  refine ⟨fun h => (by cases h), RoundIn.mono (F := WR rn) hR ?_⟩
  rintro e w' (⟨b', hI', rfl, s'⟩ | ⟨b', hI', rfl, s'⟩)
  · exact h (b', true) w' hI' s'
  · exact h (b', false) w' hI' s'

/-! ### The statement -/

omit rn in
def bindK : List Nat → List Value → List (Nat × Value) → List (Nat × Value)
  | p :: ps, v :: vs, K => bindK ps vs ((p, v) :: K)
  | _, _, K => K

theorem Kn.bind {n : Nat} : ∀ (ps : List Nat) (vs : List Value) (K : List (Nat × Value)) (a : Act), Kn n K a → (∀ p ∈ ps, p < n) → Kn n (bindK ps vs K) { a with tmps := (ps.zip vs).foldl (fun t (p, v) => t.setIfInBounds p v) a.tmps }
  | [], _, K, a, h, _ => h
  | p :: ps, [], K, a, h, _ => h
  | p :: ps, v :: vs, K, a, h, hp => by
    have h1 := Kn.bind ps vs ((p, v) :: K) (a.put (some p) v) (h.put (hp p (by simp)) v) (fun q hq => hp q (by simp [hq]))
    exact h1

section
variable {Q : Exit → Act → World → Prop} {k : List Code}

/-- Between the assignment to the loop's variables and its body. -/
theorem WK.begin {N1 : Act → World → Prop} {QF : Exit → Act → World → Prop} {Q2 : Exit → Act → World → Prop} {body : Code} {L1 L2 : HProp}
    (hb : ∀ K2 Ps2 R2, Sel L1 Ps2 R2 → WK P Q2 g n [body] K2 (L2 :: R2) → ∀ a w, Kn n K2 a → Sat g w Ps2 → N1 a w) (hs : Sel L1 Ps R) (h : WK P Q2 g n [body] K (L2 :: R)) : WK P (Exit.then N1 QF) g n [] K Ps := fun a w ka s =>
  hb K Ps R hs h a w ka s

/-- The body's ends: on to the next round; out by a return; out by a number. -/
theorem WK.roundEnd {β : Type} {I : β → Prop} {J : β → List HProp} {F : List HProp} {Q2 : Exit → Act → World → Prop} (hN : ∀ b, I b → ∀ a w, Sat g w (J b ++ F) → Q2 .normal a w) (b : β) (hI : I b) (hP : SelL (J b ++ F) Ps R) : WK P Q2 g n [] K Ps := fun a w _ s =>
  hN b hI a w (s.toCs hP)
theorem RQ.roundOut {β : Type} {I : β → Prop} {J : β → List HProp} {F : List HProp} {Q2 : Exit → Act → World → Prop} (hN : ∀ b, I b → ∀ a w, Sat g w (J b ++ F) → Q2 .ret a w) (b : β) (hI : I b) (hP : SelL (J b ++ F) Ps R) : RQ Q2 g n K Ps := fun a w _ s =>
  hN b hI a w (s.toCs hP)
theorem XQ.roundOut {β : Type} {I : β → Prop} {J : β → List HProp} {F : List HProp} {Q2 : Exit → Act → World → Prop} {id : Nat} (hN : ∀ b, I b → ∀ a w, Sat g w (J b ++ F) → Q2 (.exit id) a w) (b : β) (hI : I b) (hP : SelL (J b ++ F) Ps R) : XQ Q2 g n id K Ps := fun a w _ s =>
  hN b hI a w (s.toCs hP)

omit rn in
/-- The way out that a jump is. -/
def jumpExit : Code → Exit
  | .ret => .ret
  | .exit id => .exit id
  | _ => .normal
omit rn in
def isJump : Code → Prop
  | .ret => True
  | .exit _ => True
  | _ => False

omit rn in
theorem Sat.putObj {l : Nat} {o o' : Obj} {Ps : List HProp} (s : Sat g w (held true l o :: Ps)) : Sat g (w.putObj l o') (held true l o' :: Ps) :=
  Sat.put s rfl rfl rfl (by simp) (World.putObj_heap_same s.lt) (fun c hc => World.putObj_heap_other hc)

omit rn in
theorem Sat.front {A : HProp} {l Ps : List HProp} (s : Sat g w (l ++ A :: Ps)) : Sat g w (A :: (l ++ Ps)) := s.perm List.perm_middle
omit rn in
theorem Sat.back {A : HProp} {l Ps : List HProp} (s : Sat g w (A :: (l ++ Ps))) : Sat g w (l ++ A :: Ps) := s.perm List.perm_middle.symm

omit rn in
theorem Sat.marksOpen {b : Nat} {bs : List Nat} {Ps : List HProp} (s : Sat g w (held true b (.deferred (some [])) :: marksP bs :: Ps)) : Sat g w (held true b (.deferred (some [])) :: (bs.map (fun b => held true b (.deferred (some []))) ++ Ps)) :=
  Sat.front (Sat.unpack (s.perm (.swap _ _ _)))
omit rn in
theorem wpK_ro {r r' : Rnd} (h : r.ro = r'.ro) {k : List Code} : @wpK r P Q k = @wpK r' P Q k := by
  have e : WR r = WR r' := by unfold WR; rw [h]
  induction k with
  | nil => rfl
  | cons c k ih => unfold wpK; rw [ih, e]

theorem WK.rangeFunc (hro : rn.ro = none) {gop : Operand} {ps : List Tmp} {assign body : Code} {f : FuncId} {caps : List Value} (hg : ev K gop = some (.func (.func f) #[] caps.toArray))
    (hf : ∀ args w, (callFunc f args).run P w = .ok (.enter f args) w) {α : Type} {encs : α → List Value} {S : List α → Prop} {Pre : List HProp} (it : Iter P f caps Pre encs S)
    (hps : ∀ x, (encs x).length = ps.length) (hpn : ∀ p ∈ ps, p < n)
    {β : Type} (I : List α → β → Prop) (J : β → List HProp) (Ix : Code → List α → β → Prop) (Jx : Code → β → List HProp) (b₀ : β) (h₀ : I [] b₀)
    {R0 R1 R2 : List HProp} (hm : Sel (marksP rn.ds) Ps R0) (hP : SelL Pre R0 R1) (hJ : SelL (J b₀) R1 R2)
    (hbody : ∀ (r' : Rnd), r'.ds = [] → ∀ (L1 L2 : HProp) (F : List HProp) (pre : List α) (x : α) (b : β), (∃ ys, S (pre ++ x :: ys)) → I pre b → ∀ (N1 : Act → World → Prop) (QF Q2 : Exit → Act → World → Prop),
      (∀ K2 Ps2 R2, Sel L1 Ps2 R2 → @WK r' P Q2 g n [body] K2 (L2 :: R2) → ∀ a w, @Kn r' n K2 a → Sat g w Ps2 → N1 a w) →
      (∀ b', I (pre ++ [x]) b' → ∀ a w, Sat g w (J b' ++ L2 :: F) → Q2 .normal a w) →
      (∀ b', Ix .ret (pre ++ [x]) b' → ∀ a w, Sat g w (Jx .ret b' ++ L2 :: F) → Q2 .ret a w) →
      (∀ id b', Ix (.exit id) (pre ++ [x]) b' → ∀ a w, Sat g w (Jx (.exit id) b' ++ L2 :: F) → Q2 (.exit id) a w) →
      @WK r' P (Exit.then N1 QF) g n [assign] (bindK ps (encs x) K) (J b ++ L1 :: F))
    (hdone : ∀ (r' : Rnd), r'.ro = none → ∀ xs b, S xs → I xs b → @WK r' P Q g n k K (marksP r'.ds :: (J b ++ (Pre ++ R2))))
    (hstop : ∀ (r' : Rnd), r'.ro = none → ∀ c pre b, isJump c → Ix c pre b → @WK r' P Q g n (c :: k) K (marksP r'.ds :: (Jx c b ++ (Pre ++ R2)))) :
    WK P Q g n (.rangeFunc gop ps.toArray assign body :: k) K Ps := fun a w ka s => by
  show (Code.rangeFunc gop ps.toArray assign body).wpIn (WR rn) 0 P _ a w
  refine wpIn_rangeFunc fun fn _ => ?_
  have s1 := (((s.sel1 hm).perm (hP.perm.cons _)).perm (((hJ.perm).append_left Pre).cons _))
  have hes := run_enterLoop_outer (P := P) (w := w) fn a.tmps ps.toArray assign body
  obtain ⟨rec, hrec⟩ : ∃ rec : LoopState → Option Code → Loop, rec = fun st pe => { state := st, pending := pe, fn, tmps := a.tmps, params := ps.toArray, assign, body, defers := w.heap.size } := ⟨_, rfl⟩
  obtain ⟨D, hD⟩ : ∃ D, D = w.heap.size := ⟨_, rfl⟩
  have s2 : Sat g ((w.alloc (.deferred (some []))).alloc (.loop (rec .ready none))) (held true (D + 1) (.loop (rec .ready none)) :: held true D (.deferred (some [])) :: (marksP rn.ds :: (Pre ++ (J b₀ ++ R2)))) := by
    have t1 := Sat.new (w' := w.alloc (.deferred (some []))) s1 rfl rfl rfl rfl
    have t2 := Sat.new (w' := (w.alloc (.deferred (some []))).alloc (.loop (rec .ready none))) t1 rfl rfl rfl rfl
    rw [World.size_alloc] at t2
    rw [hD]
    exact t2
  obtain ⟨W1, hW1⟩ : ∃ W1, ((w.alloc (.deferred (some []))).alloc (.loop (rec .ready none))) = W1 := ⟨_, rfl⟩
  have hes1 : (Instr.enterLoop fn a.tmps ps.toArray assign body (WR rn).round).run P w = .ok (w.heap.size + 1, [mark w.heap.size]) W1 := by
    rw [← hW1, hrec, show (WR rn).round = none from hro]
    exact hes
  rw [hW1] at s2
  refine ⟨w.heap.size + 1, [mark w.heap.size], W1, { target := .fn (.func f) caps.toArray, args := #[.func (.yield (w.heap.size + 1)) #[] #[]] }, W1, f,
    (Value.func (.yield (w.heap.size + 1)) #[] #[] :: caps).toArray, W1, hes1, ?_, fun _ _ => trivial, ?_, fun h => (by cases h), ?_⟩
  · simp only [resolve, ka.ev hg]
    simp [go_sem]
  · simp [invoke, go_sem, hf]
  · refine (callsIn_WR rn).2 ?_
    rw [← hD]
    refine (it (Code × β) (fun pre z => I pre z.2) (fun pre z => isJump z.1 ∧ Ix z.1 pre z.2) (fun z => Sep.pack (J z.2 ++ [held true (D + 1) (.loop (rec .ready none))])) (fun z => Sep.pack (Jx z.1 z.2 ++ [held true (D + 1) (.loop (rec .done (some z.1)))]))
      (D + 1) g ?_ (.ret, b₀) W1 (held true D (.deferred (some [])) :: marksP rn.ds :: R2) h₀ ?_).mono ?_
    · -- one round
      rintro pre x ⟨_, b⟩ hS hI w2 F s3
      have s4 : Sat g w2 (held true (D + 1) (.loop (rec .ready none)) :: (J b ++ F)) := by
        have := s3.unpack
        rw [List.append_assoc] at this
        exact Sat.front this
      have hget := s4.get
      have hy := run_yield (P := P) (args := (encs x).toArray) hget (by rw [hrec]; simp [hps])
      rw [hrec] at hy
      refine ⟨fn, _, assign, body, hy, roundIn_of_wpIn (F := Fence.wide) trivial ?_⟩
      let r' : Rnd := ⟨some (D + 1), []⟩
      let Rr : Ending → World → Prop := fun e w' => (∃ b' : Code × β, I (pre ++ [x]) b'.2 ∧ e = .returned (.bool true) ∧ Sat g w' (Sep.pack (J b'.2 ++ [held true (D + 1) (.loop (rec .ready none))]) :: F)) ∨ (∃ b' : Code × β, (isJump b'.1 ∧ Ix b'.1 (pre ++ [x]) b'.2) ∧ e = .returned (.bool false) ∧ Sat g w' (Sep.pack (Jx b'.1 b'.2 ++ [held true (D + 1) (.loop (rec .done (some b'.1)))]) :: F))
      have hq : ∀ (jump : Option Code) (w3 : World) {Ps3 : List HProp}, Sat g w3 (held true (D + 1) (.loop { rec .ready none with state := .busy }) :: Ps3) →
          ∃ w4, (Instr.endRound (D + 1) jump).run P w3 = .ok (.bool jump.isNone) w4 ∧ Sat g w4 (held true (D + 1) (.loop (rec (if jump.isNone then .ready else .done) jump)) :: Ps3) := fun jump w3 Ps3 s5 => by
        have hr := run_endRound (P := P) jump s5.get
        have e2 : ({ ({ rec .ready none with state := .busy } : Loop) with state := if jump.isNone then .ready else .done, pending := jump } : Loop) = rec (if jump.isNone then .ready else .done) jump := by rw [hrec]
        rw [e2] at hr
        exact ⟨_, hr, Sat.putObj s5⟩
      have hwk := hbody r' rfl (held true (D + 1) (.loop (rec .ready none))) (held true (D + 1) (.loop { rec .ready none with state := .busy })) F pre x b hS hI
        (fun a₁ w₁ => ∃ w₂, (Instr.beginRound (D + 1)).run P w₁ = .ok () w₂ ∧ body.wpIn (WR r') 0 P (roundPost P (D + 1) Rr) a₁ w₂)
        (fun _ _ _ => False) (roundPost P (D + 1) Rr) ?_ ?_ ?_ ?_
      · refine Code.wpIn_mono (fun e a w q => by cases e <;> exact q) (hwk { tmps := _, defers := [] } w2 ?_ (Sat.back s4))
        have hk := Kn.bind (rn := r') ps (encs x) K { tmps := a.tmps, defers := [] } ⟨@Kn.size rn n K a ka, rfl, @Kn.val rn n K a ka⟩ hpn
        have e3 : ((ps.toArray.zip (encs x).toArray).foldl (fun tmps (x : Tmp × Value) => tmps.setIfInBounds x.1 x.2) a.tmps) = (ps.zip (encs x)).foldl (fun t (x : Nat × Value) => t.setIfInBounds x.1 x.2) a.tmps := by
          simp [← Array.foldl_toList]
        rw [← e3] at hk
        exact hk
      · intro K2 Ps2 R2 hs hw a2 w3 ka2 s5
        have s6 := s5.sel1 hs
        refine ⟨_, run_beginRound s6.get (by rw [hrec]), ?_⟩
        exact Code.wpIn_mono (fun e a w q => by cases e <;> exact q) (hw a2 _ ka2 (Sat.putObj s6))
      · intro b' hI' a2 w3 s5
        obtain ⟨w4, hr, s6⟩ := hq none w3 (Sat.front s5)
        refine ⟨_, w4, hr, .inl ⟨(.ret, b'), hI', rfl, Sat.pack ?_⟩⟩
        rw [List.append_assoc]
        exact Sat.back s6
      · intro b' hI' a2 w3 s5
        obtain ⟨w4, hr, s6⟩ := hq (some .ret) w3 (Sat.front s5)
        refine ⟨_, w4, hr, .inr ⟨(.ret, b'), ⟨trivial, hI'⟩, rfl, Sat.pack ?_⟩⟩
        rw [List.append_assoc]
        exact Sat.back s6
      · intro id b' hI' a2 w3 s5
        obtain ⟨w4, hr, s6⟩ := hq (some (.exit id)) w3 (Sat.front s5)
        refine ⟨_, w4, hr, .inr ⟨(.exit id, b'), ⟨trivial, hI'⟩, rfl, Sat.pack ?_⟩⟩
        rw [List.append_assoc]
        exact Sat.back s6
    · refine Sat.pack (s2.perm ?_)
      simp only [List.append_assoc]
      refine List.Perm.trans ?_ (List.perm_append_comm (l₁ := held true (D + 1) (.loop (rec .ready none)) :: held true D (.deferred (some [])) :: marksP rn.ds :: (Pre ++ R2)) (l₂ := J b₀)) |>.trans ?_
      · simp only [List.cons_append]
        refine .cons _ (.cons _ (.cons _ ?_))
        rw [List.append_assoc]
        exact (List.perm_append_comm (l₁ := J b₀) (l₂ := R2)).append_left Pre
      · refine List.Perm.append_left _ ?_
        refine .cons _ ?_
        exact (List.perm_append_comm (l₁ := [held true D (.deferred (some [])), marksP rn.ds]) (l₂ := Pre ++ R2)).trans (by rw [List.append_assoc]; exact List.Perm.append_left _ List.perm_append_comm)
    · rintro e w3 ⟨v, rfl, ⟨xs, ⟨_, b⟩, hS, hI, s3⟩ | ⟨pre, ⟨c, b⟩, ⟨hc, hI⟩, s3⟩⟩
      · have s4 : Sat g w3 (held true (D + 1) (.loop (rec .ready none)) :: (J b ++ (Pre ++ held true D (.deferred (some [])) :: marksP rn.ds :: R2))) := by
          have := s3.unpack
          rw [List.append_assoc] at this
          exact Sat.front this
        have hr : (Instr.endLoop (D + 1)).run P w3 = .ok none (w3.putObj (D + 1) (.loop (rec .exhausted none))) := by
          have := run_endLoop (P := P) s4.get (by rw [hrec]; simp)
          rw [hrec] at this ⊢
          exact this
        obtain ⟨W4, hW4⟩ : ∃ W4, W4 = w3.putObj (D + 1) (.loop (rec .exhausted none)) := ⟨_, rfl⟩
        rw [← hW4] at hr
        refine ⟨none, W4, hr, ?_⟩
        have s5 : Sat g W4 (J b ++ (Pre ++ held true D (.deferred (some [])) :: marksP rn.ds :: R2)) := by rw [hW4]; exact Sat.drop (l := [_]) (Sat.putObj s4)
        have hw := hdone ⟨none, D :: rn.ds⟩ rfl xs b hS hI { a with defers := [mark D] ++ a.defers } W4 (Kn.mk (rn := ⟨none, D :: rn.ds⟩) ka.size (by simp [ka.defers, Rnd.ds]) ka.val) (Sat.pack ?_)
        · have e5 : @wpK ⟨none, D :: rn.ds⟩ P Q k = @wpK rn P Q k := wpK_ro (r := ⟨none, D :: rn.ds⟩) (r' := rn) hro.symm
          rw [e5] at hw
          exact hw
        simp only [List.map_cons, List.cons_append]
        refine Sat.marksOpen (Sat.perm s5 ?_)
        refine (List.Perm.append_left _ (List.perm_middle (l₁ := Pre))).trans (List.perm_middle.trans (.cons _ ?_))
        exact (List.Perm.append_left _ (List.perm_middle (l₁ := Pre))).trans List.perm_middle
      · have s4 : Sat g w3 (held true (D + 1) (.loop (rec .done (some c))) :: (Jx c b ++ (Pre ++ held true D (.deferred (some [])) :: marksP rn.ds :: R2))) := by
          have := s3.unpack
          rw [List.append_assoc] at this
          exact Sat.front this
        have hr : (Instr.endLoop (D + 1)).run P w3 = .ok (some c) (w3.putObj (D + 1) (.loop (rec .exhausted (some c)))) := by
          have := run_endLoop (P := P) s4.get (by rw [hrec]; simp)
          rw [hrec] at this ⊢
          exact this
        obtain ⟨W4, hW4⟩ : ∃ W4, W4 = w3.putObj (D + 1) (.loop (rec .exhausted (some c))) := ⟨_, rfl⟩
        rw [← hW4] at hr
        refine ⟨some c, W4, hr, ?_⟩
        have s5 : Sat g W4 (Jx c b ++ (Pre ++ held true D (.deferred (some [])) :: marksP rn.ds :: R2)) := by rw [hW4]; exact Sat.drop (l := [_]) (Sat.putObj s4)
        have hw := hstop ⟨none, D :: rn.ds⟩ rfl c pre b hc hI { a with defers := [mark D] ++ a.defers } W4 (Kn.mk (rn := ⟨none, D :: rn.ds⟩) ka.size (by simp [ka.defers, Rnd.ds]) ka.val) (Sat.pack ?_)
        · have e5 : @wpK ⟨none, D :: rn.ds⟩ P Q (c :: k) = @wpK rn P Q (c :: k) := wpK_ro (r := ⟨none, D :: rn.ds⟩) (r' := rn) hro.symm
          rw [e5] at hw
          exact hw
        simp only [List.map_cons, List.cons_append]
        refine Sat.marksOpen (Sat.perm s5 ?_)
        refine (List.Perm.append_left _ (List.perm_middle (l₁ := Pre))).trans (List.perm_middle.trans (.cons _ ?_))
        exact (List.Perm.append_left _ (List.perm_middle (l₁ := Pre))).trans List.perm_middle
end
end
end Go.Sep
