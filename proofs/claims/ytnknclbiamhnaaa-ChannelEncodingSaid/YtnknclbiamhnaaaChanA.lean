import Derived.Test.YtnknclbiamhnaaaProg
import Derived.Test.YtnknclbiamhnaaaSepG
namespace Go.Proofs.Ytnknclbiamhnaaa
set_option linter.unusedVariables false
set_option linter.unusedSimpArgs false
set_option linter.unusedSectionVars false
open Go Go.Sep
attribute [local irreducible] row sl mapO held exL allR byt mapI
theorem elem31 : ElemT Try.prog 31 5 1 1 := ⟨Try.underlying31, ⟨Try.t5, _, by kernel_rfl, rfl, rfl, rfl, rfl⟩⟩
theorem elem42 : ElemT Try.prog 42 31 1 24 := ⟨Try.underlying42, ⟨Try.t31, _, by kernel_rfl, rfl, rfl, rfl, rfl⟩⟩
theorem elem35 : ElemT Try.prog 35 44 3 40 := ⟨Try.underlying35, ⟨Try.t44, _, by kernel_rfl, rfl, rfl, rfl, rfl⟩⟩
theorem places85 (w : World) : ∀ {fs : Array Field}, Try.prog.underlying 85 = some (.struct fs) → Sem.run Try.prog (fs.mapM fun f => Prod.mk f.offset <$> sizeOf f.type) w = .ok #[(0, 1), (1, 1), (2, 1), (3, 1), (4, 1), (5, 1)] w := by
  intro fs h
  rw [Try.underlying85] at h
  cases h
  simp
theorem places44 (w : World) : ∀ {fs : Array Field}, Try.prog.underlying 44 = some (.struct fs) → Sem.run Try.prog (fs.mapM fun f => Prod.mk f.offset <$> sizeOf f.type) w = .ok #[(0, 1), (1, 1), (2, 1)] w := by
  intro fs h
  rw [Try.underlying44] at h
  cases h
  simp
/-- worldmintref01.Around -/
def aroundM (i m : Int) : Int := if i < 0 then (-(i + 1)) % m else i % m

/-- An end of a channel. -/
structure EndM where
  window : Int
  waiting : List (List UInt8)
  acked : Int
  delivered : Int
  held : List (Int × List UInt8)
  owing : Bool

def newE (i : Int) : EndM := ⟨i, [], 0, 0, [], false⟩
/-- (*End).Send -/
def sendM (e : EndM) (b : List UInt8) : Int × EndM :=
  if 65536 < b.length ∨ 1000 ≤ e.waiting.length then (4, e) else (0, { e with waiting := e.waiting ++ [b] })

structure Pkt where
  seq : Int
  ack : Int
  b : List UInt8

def pkts (a d : Int) : Nat → List (List UInt8) → List Pkt
  | _, [] => []
  | i, b :: bs => ⟨a + i + 1, d, b⟩ :: pkts a d (i + 1) bs

theorem pkts_snoc (a d : Int) (b : List UInt8) : ∀ (bs : List (List UInt8)) (i : Nat), pkts a d i (bs ++ [b]) = pkts a d i bs ++ [⟨a + ((i + bs.length : Nat) : Int) + 1, d, b⟩]
  | [], i => by simp [pkts]
  | x :: bs, i => by
    simp only [List.cons_append, pkts, List.length_cons]
    rw [pkts_snoc a d b bs (i + 1)]
    rw [show i + 1 + bs.length = i + (bs.length + 1) by omega]

theorem pkts_length (a d : Int) : ∀ (bs : List (List UInt8)) (i : Nat), (pkts a d i bs).length = bs.length
  | [], _ => rfl
  | _ :: bs, i => by simp [pkts, pkts_length a d bs]

theorem pkts_b (a d : Int) : ∀ (bs : List (List UInt8)) (i : Nat), (pkts a d i bs).map (·.b) = bs
  | [], _ => rfl
  | _ :: bs, i => by simp [pkts, pkts_b a d bs]

/-- the cells of packets -/
def pktC : List Pkt → List Value → List Value
  | p :: ps, v :: vs => .int .i64 p.seq :: .int .i64 p.ack :: v :: pktC ps vs
  | _, _ => []

theorem pktC_snoc (p : Pkt) (v : Value) : ∀ (ps : List Pkt) (vs : List Value), ps.length = vs.length → pktC (ps ++ [p]) (vs ++ [v]) = pktC ps vs ++ [.int .i64 p.seq, .int .i64 p.ack, v]
  | [], [], _ => rfl
  | [], _ :: _, h => by simp at h
  | _ :: _, [], h => by simp at h
  | q :: ps, u :: vs, h => by
    simp only [List.cons_append, pktC]
    rw [pktC_snoc p v ps vs (by simpa using h)]

def outN (e : EndM) : Nat := min e.waiting.length e.window.toNat
def outL (e : EndM) : List Pkt := pkts e.acked e.delivered 0 (e.waiting.take (outN e))
/-- (*End).Out -/
def outM (e : EndM) : List Pkt × EndM :=
  ((if outN e = 0 ∧ e.owing = true then [⟨0, e.delivered, []⟩] else outL e), { e with owing := false })

structure EndOk (e : EndM) : Prop where
  win : 1 ≤ e.window ∧ e.window ≤ 16
  ack : 0 ≤ e.acked ∧ e.acked ≤ 4611686018427387904
  del : 0 ≤ e.delivered ∧ e.delivered ≤ 4611686018427387904
  wait : e.waiting.length ≤ 1000
  msg : ∀ b ∈ e.waiting, b.length ≤ 65536

def validB (seq ack : Int) (len : Nat) : Bool := decide (0 ≤ seq) && (decide (0 ≤ ack) && (decide (len ≤ 65536) && (decide (0 < seq) || decide (len = 0))))

theorem del_list {xs : List Value} {len k : Nat} (h : xs.length = len) (hk : k ≤ len) :
    (xs.take (0 * 1) ++ (xs.drop (k * 1) ++ xs.drop (0 * 1 + (xs.drop (k * 1)).length))).take ((len - k) * 1) = xs.drop k := by
  simp only [Nat.mul_one, Nat.zero_mul, List.take_zero, List.nil_append]
  rw [List.take_append_of_le_length (by rw [List.length_drop, h]; exact Nat.le_refl _), List.take_of_length_le (by rw [List.length_drop, h]; exact Nat.le_refl _)]

/-- The messages that come next, one behind the other. -/
def deliver : Nat → Int → List (Int × List UInt8) → List (List UInt8) × Int × List (Int × List UInt8)
  | 0, d, h => ([], d, h)
  | n + 1, d, h => match mget h (d + 1) with
    | none => ([], d, h)
    | some b => (b :: (deliver n (d + 1) (mdel h (d + 1))).1, (deliver n (d + 1) (mdel h (d + 1))).2)

def ackM (e : EndM) (a : Int) : EndM := if 0 < a - e.acked then { e with waiting := e.waiting.drop (a - e.acked).toNat, acked := a } else e
def holdM (e : EndM) (p : Pkt) : EndM := if e.delivered < p.seq ∧ mget e.held p.seq = none then { e with owing := true, held := mset e.held p.seq p.b } else { e with owing := true }
/-- (*End).In -/
def inM (e : EndM) (p : Pkt) : List (List UInt8) × EndM :=
  if validB p.seq p.ack p.b.length = false ∨ e.acked + e.waiting.length < p.ack ∨ e.delivered + 16 < p.seq then ([], e)
  else if p.seq = 0 then ([], ackM e p.ack)
  else
    let e3 := holdM (ackM e p.ack) p
    let r := deliver e3.held.length e3.delivered e3.held
    (r.1, { e3 with delivered := r.2.1, held := r.2.2 })

theorem deliver_none {d : Int} {h : List (Int × List UInt8)} (hg : mget h (d + 1) = none) (n : Nat) : deliver n d h = ([], d, h) := by
  cases n with
  | zero => rfl
  | succ n => simp [deliver, hg]

theorem deliver_some {d : Int} {h : List (Int × List UInt8)} {b : List UInt8} (hg : mget h (d + 1) = some b) : deliver h.length d h = (b :: (deliver (mdel h (d + 1)).length (d + 1) (mdel h (d + 1))).1, (deliver (mdel h (d + 1)).length (d + 1) (mdel h (d + 1))).2) := by
  have := mdel_length hg
  rw [← this]
  simp [deliver, hg]

structure InOk (e : EndM) : Prop where
  ack : 0 ≤ e.acked ∧ e.acked ≤ 4611686018427387904
  del : 0 ≤ e.delivered ∧ e.delivered + e.held.length ≤ 4611686018427387904
  wait : e.waiting.length ≤ 1000
  held : e.held.length ≤ 1000000

theorem deliver_len : ∀ (n : Nat) (d : Int) (h : List (Int × List UInt8)), (deliver n d h).1.length ≤ n
  | 0, _, _ => by simp [deliver]
  | n + 1, d, h => by
    unfold deliver
    split
    · simp
    · simp [deliver_len n]

theorem ackM_fix (e : EndM) (a : Int) : (ackM e a).delivered = e.delivered ∧ (ackM e a).held = e.held ∧ (ackM e a).window = e.window ∧ (ackM e a).owing = e.owing := by
  unfold ackM; split <;> simp
theorem holdM_fix (e : EndM) (p : Pkt) : (holdM e p).delivered = e.delivered ∧ (holdM e p).waiting = e.waiting ∧ (holdM e p).acked = e.acked ∧ (holdM e p).window = e.window ∧ (holdM e p).owing = true := by
  unfold holdM; split <;> simp
theorem holdM_len (e : EndM) (p : Pkt) : (holdM e p).held.length ≤ e.held.length + 1 := by
  unfold holdM
  split
  · rename_i h; simp only; rw [mset_none h.2]; simp
  · simp

structure EndX where
  wad : Option Addr
  wlen : Nat
  wcap : Nat
  wvs : List Value
  mb : Nat
  mm : List (Int × Value)

def endL (q : Nat) (e : EndM) (x : EndX) : List HProp :=
  [row true q 85 [.int .i64 e.window, .slice x.wad x.wlen x.wcap, .int .i64 e.acked, .int .i64 e.delivered, .map (some x.mb), .bool e.owing],
   sl true 31 1 x.wad x.wlen x.wcap x.wvs, allR (byt 5 false) x.wvs e.waiting, mapI true x.mb x.mm, allR (byt 5 false) (x.mm.map (·.2)) (e.held.map (·.2))]

def endR (q : Nat) (e : EndM) : HProp := exL (fun x : EndX => x.mm.map (·.1) = e.held.map (·.1)) (endL q e)

theorem Sat.endOpen {g w : World} {Ps : List HProp} {q : Nat} {e : EndM} (s : Sat g w (endR q e :: Ps)) : ∃ x : EndX, x.mm.map (·.1) = e.held.map (·.1) ∧ Sat g w (endL q e x ++ Ps) := by
  unfold endR at s
  exact s.exOpen
theorem Sat.endShut {g w : World} {Ps : List HProp} {q : Nat} {e : EndM} (x : EndX) (hx : x.mm.map (·.1) = e.held.map (·.1)) (s : Sat g w (endL q e x ++ Ps)) : Sat g w (endR q e :: Ps) := by
  unfold endR
  exact Sat.exShut x hx s

theorem Triple.endOpen {P : Program} {f : FuncId} {args : Array Value} {Pre : List HProp} {ι : Type} {φ : ι → Prop} {val : ι → Value} {Post : ι → List HProp} {q : Nat} {e : EndM}
    (h : ∀ x : EndX, x.mm.map (·.1) = e.held.map (·.1) → Triple P f args (endL q e x ++ Pre) ι φ val Post) : Triple P f args (endR q e :: Pre) ι φ val Post := by
  unfold endR
  exact Triple.openEx h

attribute [irreducible] endR
set_option maxRecDepth 20000 in
set_option maxHeartbeats 1000000 in
theorem around_spec (i m : Int) (hi : -9223372036854775808 ≤ i ∧ i ≤ 9223372036854775807) (hm : 1 ≤ m) :
    Triple Try.prog 12 #[.int .i64 i, .int .i64 m] [] (Unit) (fun _ => True) (fun _ => .int .i64 (aroundM i m)) (fun _ => []) := by
  refine Triple.of_body (args := [.int .i64 i, .int .i64 m]) Try.func12 rfl Try.ntmps12 (by simp) (fun g F => ?_)
  dsimp only [numb, List.cons_append, List.nil_append]
  refine WK.seq ?_
  refine WK.region ?_
  refine WL.yld (wanted_plain (by rfl)) (yld_assign (by rfl)) (by rfl) (by decide) ?_
  refine WL.done ?_
  refine WK.seq ?_
  refine WK.seq ?_
  refine WK.region ?_
  refine WL.yld (wanted_plain (by rfl)) (yld_move (by rfl)) (by rfl) (by decide) ?_
  refine WL.yld (wanted_plain (by rfl)) (yld_lss (by rfl) (by rfl)) (by rfl) (by decide) ?_
  refine WL.done ?_
  refine WK.cond (by rfl) (fun hc6 => ?_) (fun hc6 => ?_)
  · skip
    have hc6 := of_decide_eq_true hc6
    refine WK.region ?_
    refine WL.yld (wanted_plain (by rfl)) (yld_move (by rfl)) (by rfl) (by decide) ?_
    refine WL.yld (wanted_plain (by rfl)) (yld_add (by rfl) (by rfl) (by first | exact w64 (by omega) (by omega) | rfl)) (by rfl) (by decide) ?_
    refine WL.yld (wanted_plain (by rfl)) (yld_neg (by rfl) (by first | exact w64 (by omega) (by omega) | rfl)) (by rfl) (by decide) ?_
    refine WL.yld (wanted_plain (by rfl)) (yld_assign (by rfl)) (by rfl) (by decide) ?_
    refine WL.done ?_
    refine WK.seq ?_
    refine WK.region ?_
    refine WL.yld (wanted_plain (by rfl)) (yld_move (by rfl)) (by rfl) (by decide) ?_
    refine WL.yld (wanted_plain (by rfl)) (yld_move (by rfl)) (by rfl) (by decide) ?_
    refine WL.yld (wanted_plain (by rfl)) (yld_rem (by rfl) (by rfl) (by omega) (by exact Int.tmod_eq_emod_of_nonneg (by omega))) (by rfl) (by decide) ?_
    refine WL.yld (wanted_plain (by rfl)) (yld_assign (by rfl)) (by rfl) (by decide) ?_
    refine WL.done ?_
    refine WK.ret ?_
    repeat (first | refine RQ.block ?_ | refine RQ.then_ ?_)
    refine RQ.body (results1 (by rfl) (by rfl)) (fun w s => ?_)
    refine ⟨(), trivial, ?_, s⟩
    rw [aroundM, if_pos hc6]
  · skip
    have hc6 := of_decide_eq_false hc6
    refine WK.skip ?_
    refine WK.seq ?_
    refine WK.region ?_
    refine WL.yld (wanted_plain (by rfl)) (yld_move (by rfl)) (by rfl) (by decide) ?_
    refine WL.yld (wanted_plain (by rfl)) (yld_move (by rfl)) (by rfl) (by decide) ?_
    refine WL.yld (wanted_plain (by rfl)) (yld_rem (by rfl) (by rfl) (by omega) (by exact Int.tmod_eq_emod_of_nonneg (by omega))) (by rfl) (by decide) ?_
    refine WL.yld (wanted_plain (by rfl)) (yld_assign (by rfl)) (by rfl) (by decide) ?_
    refine WL.done ?_
    refine WK.ret ?_
    repeat (first | refine RQ.block ?_ | refine RQ.then_ ?_)
    refine RQ.body (results1 (by rfl) (by rfl)) (fun w s => ?_)
    refine ⟨(), trivial, ?_, s⟩
    rw [aroundM, if_neg hc6]
set_option maxRecDepth 20000 in
set_option maxHeartbeats 1000000 in
theorem clone_spec (p : Bool) (ad : Option Addr) (len cap : Nat) (xs : List Value) (hl : len ≤ 140737488355328) :
    Triple Try.prog 42 #[.slice ad len cap] [sl p 5 1 ad len cap xs] (Option Addr × Nat × Nat) (fun r => r.2.1 = len) (fun r => .slice r.1 r.2.1 r.2.2) (fun r => [sl true 5 1 r.1 r.2.1 r.2.2 xs, sl p 5 1 ad len cap xs]) := by
  refine Triple.of_body (args := [.slice ad len cap]) Try.func42 rfl Try.ntmps42 (by simp) (fun g F => ?_)
  dsimp only [numb, List.cons_append, List.nil_append]
  refine WK.seq ?_
  refine WK.region ?_
  refine WL.yld (wanted_plain (by rfl)) (yld_assign (by rfl)) (by rfl) (by decide) ?_
  refine WL.done ?_
  refine WK.seq ?_
  refine WK.seq ?_
  refine WK.region ?_
  refine WL.yld (wanted_plain (by rfl)) (yld_move (by rfl)) (by rfl) (by decide) ?_
  refine WL.yld (wanted_plain (by rfl)) (yld_eqlNilS (by rfl) (by rfl) (by exact Try.runUnderlying31)) (by rfl) (by decide) ?_
  refine WL.done ?_
  refine WK.cond (by rfl) (fun hc4 => ?_) (fun hc4 => ?_)
  · skip
    refine WK.seq ?_
    refine WK.region ?_
    refine WL.yld (wanted_plain (by rfl)) (yld_assign (by rfl)) (by rfl) (by decide) ?_
    refine WL.done ?_
    refine WK.ret ?_
    repeat (first | refine RQ.block ?_ | refine RQ.then_ ?_)
    refine RQ.body (results1 (by rfl) (by rfl)) (fun w s => ?_)
    obtain rfl : ad = none := by simpa using hc4
    rcases s.slOpen with ⟨-, rfl, rfl, rfl, s'⟩ | ⟨b, pre, rest, h, -⟩
    · exact ⟨(none, 0, 0), rfl, rfl, s.nilSl true 5 1⟩
    · cases h
  · skip
    refine WK.skip ?_
    refine WK.seq ?_
    refine WK.region ?_
    refine WL.eff (wanted_plain (by rfl)) (eff_mkSlice0 (by exact Try.runUnderlying31) (by exact Try.sizeOf5)) (by rfl) (by decide) ?_
    rintro b5 -
    try dsimp only
    refine WL.yld (wanted_plain (by rfl)) (yld_move (by rfl)) (by rfl) (by decide) ?_
    refine WL.eff (wanted_plain (by rfl)) (eff_append (by rfl) (by rfl) (by exact elem31) (by exact Try.underlying31) (by repeat (first | exact SelL.nil | exact SelL.self | apply SelL.cons | exact Sel.here | apply Sel.there | apply SelL.skip)) (by omega) (by omega)) (by rfl) (by decide) ?_
    rintro ⟨ad7, cap7⟩ -
    try dsimp only
    refine WL.yld (wanted_plain (by rfl)) (yld_assign (by rfl)) (by rfl) (by decide) ?_
    refine WL.done ?_
    refine WK.ret ?_
    repeat (first | refine RQ.block ?_ | refine RQ.then_ ?_)
    refine RQ.body (results1 (by rfl) (by rfl)) (fun w s => ?_)
    exact ⟨(ad7, 0 + len, cap7), Nat.zero_add _, rfl, s⟩
set_option maxRecDepth 20000 in
set_option maxHeartbeats 1000000 in
theorem valid_spec (p : Bool) (x y : Int) (ad : Option Addr) (len cap : Nat) :
    Triple Try.prog 43 #[.agg #[.int .i64 x, .int .i64 y, .slice ad len cap]] [] (Unit) (fun _ => True) (fun _ => .bool (validB x y len)) (fun _ => []) := by
  refine Triple.of_body (args := [.agg #[.int .i64 x, .int .i64 y, .slice ad len cap]]) Try.func43 rfl Try.ntmps43 (by simp) (fun g F => ?_)
  dsimp only [numb, List.cons_append, List.nil_append]
  refine WK.seq ?_
  refine WK.region ?_
  refine WL.eff (wanted_plain (by rfl)) (eff_box (by rfl) (by rfl)) (by rfl) (by decide) ?_
  rintro b1 -
  try dsimp only
  refine WL.yld (wanted_plain (by rfl)) (yld_assign (by rfl)) (by rfl) (by decide) ?_
  refine WL.done ?_
  refine WK.seq ?_
  refine WK.region ?_
  refine WL.yld (wanted_plain (by rfl)) (yld_fieldAddr (by rfl) (by exact Try.runUnderlying44) (by rfl) (by exact Try.sizeOf3) (by rfl) (by rfl)) (by rfl) (by decide) ?_
  refine WL.yld (wanted_plain (by rfl)) (yld_load (by rfl) (by exact Try.isAgg3) (by repeat (first | exact .here | apply Sel.there)) (by rfl)) (by rfl) (by decide) ?_
  refine WL.yld (wanted_plain (by rfl)) (yld_geq (by rfl) (by rfl)) (by rfl) (by decide) ?_
  refine WL.yld (wanted_plain (by rfl)) (yld_move (by rfl)) (by rfl) (by decide) ?_
  refine WL.split (d := 6) (by rfl) (fun hc6 => ?_) (fun hc6 => ?_)
  · skip
    have hc6 := of_decide_eq_true hc6
    refine WL.yld (wanted_some (by rfl) (by rfl) (by rfl)) (yld_fieldAddr (by rfl) (by exact Try.runUnderlying44) (by rfl) (by exact Try.sizeOf3) (by rfl) (by rfl)) (by rfl) (by decide) ?_
    refine WL.yld (wanted_some (by rfl) (by rfl) (by rfl)) (yld_load (by rfl) (by exact Try.isAgg3) (by repeat (first | exact .here | apply Sel.there)) (by rfl)) (by rfl) (by decide) ?_
    refine WL.yld (wanted_some (by rfl) (by rfl) (by rfl)) (yld_geq (by rfl) (by rfl)) (by rfl) (by decide) ?_
    refine WL.yld (wanted_plain (by rfl)) (yld_pick_true (by rfl) (by rfl)) (by rfl) (by decide) ?_
    refine WL.yld (wanted_plain (by rfl)) (yld_move (by rfl)) (by rfl) (by decide) ?_
    refine WL.split (d := 11) (by rfl) (fun hc11 => ?_) (fun hc11 => ?_)
    · skip
      have hc11 := of_decide_eq_true hc11
      refine WL.yld (wanted_some (by rfl) (by rfl) (by rfl)) (yld_fieldAddr (by rfl) (by exact Try.runUnderlying44) (by rfl) (by exact Try.sizeOf31) (by rfl) (by rfl)) (by rfl) (by decide) ?_
      refine WL.yld (wanted_some (by rfl) (by rfl) (by rfl)) (yld_load (by rfl) (by exact Try.isAgg31) (by repeat (first | exact .here | apply Sel.there)) (by rfl)) (by rfl) (by decide) ?_
      refine WL.yld (wanted_some (by rfl) (by rfl) (by rfl)) (yld_len (by rfl) (by exact Try.runUnderlying31)) (by rfl) (by decide) ?_
      refine WL.yld (wanted_some (by rfl) (by rfl) (by rfl)) (yld_leq (by rfl) (by rfl)) (by rfl) (by decide) ?_
      refine WL.yld (wanted_plain (by rfl)) (yld_pick_true (by rfl) (by rfl)) (by rfl) (by decide) ?_
      refine WL.yld (wanted_plain (by rfl)) (yld_move (by rfl)) (by rfl) (by decide) ?_
      refine WL.split (d := 17) (by rfl) (fun hc17 => ?_) (fun hc17 => ?_)
      · skip
        have hc17 := of_decide_eq_true hc17
        refine WL.yld (wanted_some (by rfl) (by rfl) (by rfl)) (yld_fieldAddr (by rfl) (by exact Try.runUnderlying44) (by rfl) (by exact Try.sizeOf3) (by rfl) (by rfl)) (by rfl) (by decide) ?_
        refine WL.yld (wanted_some (by rfl) (by rfl) (by rfl)) (yld_load (by rfl) (by exact Try.isAgg3) (by repeat (first | exact .here | apply Sel.there)) (by rfl)) (by rfl) (by decide) ?_
        refine WL.yld (wanted_some (by rfl) (by rfl) (by rfl)) (yld_gtr (by rfl) (by rfl)) (by rfl) (by decide) ?_
        refine WL.yld (wanted_some (by rfl) (by rfl) (by rfl)) (yld_move (by rfl)) (by rfl) (by decide) ?_
        refine WL.split (d := 21) (by rfl) (fun hc21 => ?_) (fun hc21 => ?_)
        · skip
          have hc21 := of_decide_eq_true hc21
          refine WL.skip (unwanted_some (by rfl) (by rfl) (by rfl) (by rfl)) (by rfl) (by decide) ?_
          refine WL.skip (unwanted_some (by rfl) (by rfl) (by rfl) (by rfl)) (by rfl) (by decide) ?_
          refine WL.skip (unwanted_some (by rfl) (by rfl) (by rfl) (by rfl)) (by rfl) (by decide) ?_
          refine WL.skip (unwanted_some (by rfl) (by rfl) (by rfl) (by rfl)) (by rfl) (by decide) ?_
          refine WL.yld (wanted_some (by rfl) (by rfl) (by rfl)) (yld_pick_true (by rfl) (by rfl)) (by rfl) (by decide) ?_
          refine WL.yld (wanted_plain (by rfl)) (yld_pick_true (by rfl) (by rfl)) (by rfl) (by decide) ?_
          refine WL.yld (wanted_plain (by rfl)) (yld_assign (by rfl)) (by rfl) (by decide) ?_
          refine WL.done ?_
          refine WK.ret ?_
          repeat (first | refine RQ.block ?_ | refine RQ.then_ ?_)
          refine RQ.body (results1 (by rfl) (by rfl)) (fun w s => ?_)
          exact ⟨(), trivial, by unfold validB; simp [*] <;> omega, s.drop (l := [_])⟩
        · skip
          have hc21 := of_decide_eq_false hc21
          refine WL.yld (wanted_some (by rfl) (by rfl) (by rfl)) (yld_fieldAddr (by rfl) (by exact Try.runUnderlying44) (by rfl) (by exact Try.sizeOf31) (by rfl) (by rfl)) (by rfl) (by decide) ?_
          refine WL.yld (wanted_some (by rfl) (by rfl) (by rfl)) (yld_load (by rfl) (by exact Try.isAgg31) (by repeat (first | exact .here | apply Sel.there)) (by rfl)) (by rfl) (by decide) ?_
          refine WL.yld (wanted_some (by rfl) (by rfl) (by rfl)) (yld_len (by rfl) (by exact Try.runUnderlying31)) (by rfl) (by decide) ?_
          refine WL.yld (wanted_some (by rfl) (by rfl) (by rfl)) (yld_eql (by rfl) (by rfl)) (by rfl) (by decide) ?_
          refine WL.yld (wanted_some (by rfl) (by rfl) (by rfl)) (yld_pick_false (by rfl) (by rfl)) (by rfl) (by decide) ?_
          refine WL.yld (wanted_plain (by rfl)) (yld_pick_true (by rfl) (by rfl)) (by rfl) (by decide) ?_
          refine WL.yld (wanted_plain (by rfl)) (yld_assign (by rfl)) (by rfl) (by decide) ?_
          refine WL.done ?_
          refine WK.ret ?_
          repeat (first | refine RQ.block ?_ | refine RQ.then_ ?_)
          refine RQ.body (results1 (by rfl) (by rfl)) (fun w s => ?_)
          exact ⟨(), trivial, by unfold validB; simp [*] <;> omega, s.drop (l := [_])⟩
      · skip
        have hc17 := of_decide_eq_false hc17
        refine WL.skip (unwanted_some (by rfl) (by rfl) (by rfl) (by rfl)) (by rfl) (by decide) ?_
        refine WL.skip (unwanted_some (by rfl) (by rfl) (by rfl) (by rfl)) (by rfl) (by decide) ?_
        refine WL.skip (unwanted_some (by rfl) (by rfl) (by rfl) (by rfl)) (by rfl) (by decide) ?_
        refine WL.skip (unwanted_some (by rfl) (by rfl) (by rfl) (by rfl)) (by rfl) (by decide) ?_
        refine WL.skip (unwanted_undef (by rfl) (by rfl) (by rfl)) (by rfl) (by decide) ?_
        refine WL.skip (unwanted_undef (by rfl) (by rfl) (by rfl)) (by rfl) (by decide) ?_
        refine WL.skip (unwanted_undef (by rfl) (by rfl) (by rfl)) (by rfl) (by decide) ?_
        refine WL.skip (unwanted_undef (by rfl) (by rfl) (by rfl)) (by rfl) (by decide) ?_
        refine WL.skip (unwanted_some (by rfl) (by rfl) (by rfl) (by rfl)) (by rfl) (by decide) ?_
        refine WL.yld (wanted_plain (by rfl)) (yld_pick_false (by rfl) (by rfl)) (by rfl) (by decide) ?_
        refine WL.yld (wanted_plain (by rfl)) (yld_assign (by rfl)) (by rfl) (by decide) ?_
        refine WL.done ?_
        refine WK.ret ?_
        repeat (first | refine RQ.block ?_ | refine RQ.then_ ?_)
        refine RQ.body (results1 (by rfl) (by rfl)) (fun w s => ?_)
        exact ⟨(), trivial, by unfold validB; simp [*] <;> omega, s.drop (l := [_])⟩
    · skip
      have hc11 := of_decide_eq_false hc11
      refine WL.skip (unwanted_some (by rfl) (by rfl) (by rfl) (by rfl)) (by rfl) (by decide) ?_
      refine WL.skip (unwanted_some (by rfl) (by rfl) (by rfl) (by rfl)) (by rfl) (by decide) ?_
      refine WL.skip (unwanted_some (by rfl) (by rfl) (by rfl) (by rfl)) (by rfl) (by decide) ?_
      refine WL.skip (unwanted_some (by rfl) (by rfl) (by rfl) (by rfl)) (by rfl) (by decide) ?_
      refine WL.yld (wanted_plain (by rfl)) (yld_pick_false (by rfl) (by rfl)) (by rfl) (by decide) ?_
      refine WL.yld (wanted_plain (by rfl)) (yld_move (by rfl)) (by rfl) (by decide) ?_
      refine WL.skip (unwanted_some (by rfl) (by rfl) (by rfl) (by rfl)) (by rfl) (by decide) ?_
      refine WL.skip (unwanted_some (by rfl) (by rfl) (by rfl) (by rfl)) (by rfl) (by decide) ?_
      refine WL.skip (unwanted_some (by rfl) (by rfl) (by rfl) (by rfl)) (by rfl) (by decide) ?_
      refine WL.skip (unwanted_some (by rfl) (by rfl) (by rfl) (by rfl)) (by rfl) (by decide) ?_
      refine WL.skip (unwanted_undef (by rfl) (by rfl) (by rfl)) (by rfl) (by decide) ?_
      refine WL.skip (unwanted_undef (by rfl) (by rfl) (by rfl)) (by rfl) (by decide) ?_
      refine WL.skip (unwanted_undef (by rfl) (by rfl) (by rfl)) (by rfl) (by decide) ?_
      refine WL.skip (unwanted_undef (by rfl) (by rfl) (by rfl)) (by rfl) (by decide) ?_
      refine WL.skip (unwanted_some (by rfl) (by rfl) (by rfl) (by rfl)) (by rfl) (by decide) ?_
      refine WL.yld (wanted_plain (by rfl)) (yld_pick_false (by rfl) (by rfl)) (by rfl) (by decide) ?_
      refine WL.yld (wanted_plain (by rfl)) (yld_assign (by rfl)) (by rfl) (by decide) ?_
      refine WL.done ?_
      refine WK.ret ?_
      repeat (first | refine RQ.block ?_ | refine RQ.then_ ?_)
      refine RQ.body (results1 (by rfl) (by rfl)) (fun w s => ?_)
      exact ⟨(), trivial, by unfold validB; simp [*] <;> omega, s.drop (l := [_])⟩
  · skip
    have hc6 := of_decide_eq_false hc6
    refine WL.skip (unwanted_some (by rfl) (by rfl) (by rfl) (by rfl)) (by rfl) (by decide) ?_
    refine WL.skip (unwanted_some (by rfl) (by rfl) (by rfl) (by rfl)) (by rfl) (by decide) ?_
    refine WL.skip (unwanted_some (by rfl) (by rfl) (by rfl) (by rfl)) (by rfl) (by decide) ?_
    refine WL.yld (wanted_plain (by rfl)) (yld_pick_false (by rfl) (by rfl)) (by rfl) (by decide) ?_
    refine WL.yld (wanted_plain (by rfl)) (yld_move (by rfl)) (by rfl) (by decide) ?_
    refine WL.skip (unwanted_some (by rfl) (by rfl) (by rfl) (by rfl)) (by rfl) (by decide) ?_
    refine WL.skip (unwanted_some (by rfl) (by rfl) (by rfl) (by rfl)) (by rfl) (by decide) ?_
    refine WL.skip (unwanted_some (by rfl) (by rfl) (by rfl) (by rfl)) (by rfl) (by decide) ?_
    refine WL.skip (unwanted_some (by rfl) (by rfl) (by rfl) (by rfl)) (by rfl) (by decide) ?_
    refine WL.yld (wanted_plain (by rfl)) (yld_pick_false (by rfl) (by rfl)) (by rfl) (by decide) ?_
    refine WL.yld (wanted_plain (by rfl)) (yld_move (by rfl)) (by rfl) (by decide) ?_
    refine WL.skip (unwanted_some (by rfl) (by rfl) (by rfl) (by rfl)) (by rfl) (by decide) ?_
    refine WL.skip (unwanted_some (by rfl) (by rfl) (by rfl) (by rfl)) (by rfl) (by decide) ?_
    refine WL.skip (unwanted_some (by rfl) (by rfl) (by rfl) (by rfl)) (by rfl) (by decide) ?_
    refine WL.skip (unwanted_some (by rfl) (by rfl) (by rfl) (by rfl)) (by rfl) (by decide) ?_
    refine WL.skip (unwanted_undef (by rfl) (by rfl) (by rfl)) (by rfl) (by decide) ?_
    refine WL.skip (unwanted_undef (by rfl) (by rfl) (by rfl)) (by rfl) (by decide) ?_
    refine WL.skip (unwanted_undef (by rfl) (by rfl) (by rfl)) (by rfl) (by decide) ?_
    refine WL.skip (unwanted_undef (by rfl) (by rfl) (by rfl)) (by rfl) (by decide) ?_
    refine WL.skip (unwanted_some (by rfl) (by rfl) (by rfl) (by rfl)) (by rfl) (by decide) ?_
    refine WL.yld (wanted_plain (by rfl)) (yld_pick_false (by rfl) (by rfl)) (by rfl) (by decide) ?_
    refine WL.yld (wanted_plain (by rfl)) (yld_assign (by rfl)) (by rfl) (by decide) ?_
    refine WL.done ?_
    refine WK.ret ?_
    repeat (first | refine RQ.block ?_ | refine RQ.then_ ?_)
    refine RQ.body (results1 (by rfl) (by rfl)) (fun w s => ?_)
    exact ⟨(), trivial, by unfold validB; simp [*] <;> omega, s.drop (l := [_])⟩
set_option maxRecDepth 20000 in
set_option maxHeartbeats 1000000 in
theorem delete_spec (ad : Option Addr) (len cap k : Nat) (j : Int) (xs : List Value) (hj : j = (k : Int)) (hk : 0 < k) (hkl : k ≤ len) (hlen : len ≤ 1000000) :
    Triple Try.prog 44 #[.slice ad len cap, .int .i64 0, .int .i64 j] [sl true 31 1 ad len cap xs] (Unit) (fun _ => True) (fun _ => .slice ad (len - k) cap) (fun _ => [sl true 31 1 ad (len - k) cap (xs.drop k)]) := by
  refine Triple.of_body (args := [.slice ad len cap, .int .i64 0, .int .i64 j]) Try.func44 rfl Try.ntmps44 (by simp) (fun g F => ?_)
  dsimp only [numb, List.cons_append, List.nil_append]
  refine WK.know (fun w s => Sat.slLen (s.sel1 .here)) (fun hl => ?_)
  obtain ⟨hl1, hl2, -⟩ := hl
  simp only [Nat.mul_one] at hl1
  refine WK.seq ?_
  refine WK.region ?_
  refine WL.yld (wanted_plain (by rfl)) (yld_assign (by rfl)) (by rfl) (by decide) ?_
  refine WL.done ?_
  refine WK.seq ?_
  refine WK.region ?_
  refine WL.yld (wanted_plain (by rfl)) (yld_move (by rfl)) (by rfl) (by decide) ?_
  refine WL.yld (wanted_plain (by rfl)) (yld_move (by rfl)) (by rfl) (by decide) ?_
  refine WL.yld (wanted_plain (by rfl)) (yld_move (by rfl)) (by rfl) (by decide) ?_
  refine WL.yld (wanted_plain (by rfl)) (yld_move (by rfl)) (by rfl) (by decide) ?_
  refine WL.yld (wanted_plain (by rfl)) (yld_len (by rfl) (by exact Try.runUnderlying42)) (by rfl) (by decide) ?_
  refine WL.yld (wanted_plain (by rfl)) (yld_slice3 (by rfl) (by rfl) (by rfl) (by rfl) (by exact Try.runUnderlying42) (by exact Try.sizeOf31) 0 k len (by rfl) hj (by rfl) (by omega) hkl hl2) (by rfl) (by decide) ?_
  refine WL.done ?_
  refine WK.seq ?_
  refine WK.seq ?_
  refine WK.region ?_
  refine WL.yld (wanted_plain (by rfl)) (yld_move (by rfl)) (by rfl) (by decide) ?_
  refine WL.yld (wanted_plain (by rfl)) (yld_move (by rfl)) (by rfl) (by decide) ?_
  refine WL.yld (wanted_plain (by rfl)) (yld_eql (by rfl) (by rfl)) (by rfl) (by decide) ?_
  refine WL.done ?_
  refine WK.cond (by rfl) (fun hc16 => ?_) (fun hc16 => ?_)
  · skip
    have hc16 := of_decide_eq_true hc16
    exfalso; omega
    skip
  · skip
    have hc16 := of_decide_eq_false hc16
    refine WK.skip ?_
    refine WK.seq ?_
    refine WK.region ?_
    refine WL.yld (wanted_plain (by rfl)) (yld_move (by rfl)) (by rfl) (by decide) ?_
    refine WL.yld (wanted_plain (by rfl)) (yld_len (by rfl) (by exact Try.runUnderlying42)) (by rfl) (by decide) ?_
    refine WL.yld (wanted_plain (by rfl)) (yld_assign (by rfl)) (by rfl) (by decide) ?_
    refine WL.done ?_
    refine WK.seq ?_
    refine WK.drawn (by kernel_rfl) [(0, 0), (1, 0), (2, 0), (3, 0), (4, 0), (5, 0), (6, 1), (7, 0)] [] (by kernel_rfl) (by kernel_rfl) (by kernel_rfl) ?_
    refine WO.yld (by rfl) (wanted_plain (by rfl)) (yld_move (by rfl)) (by rfl) (by decide) (by repeat (first | exact SelL.nil | exact SelL.self | apply SelL.cons | exact Sel.here | apply Sel.there | apply SelL.skip)) ?_
    refine WO.yld (by rfl) (wanted_plain (by rfl)) (yld_move (by rfl)) (by rfl) (by decide) (by repeat (first | exact SelL.nil | exact SelL.self | apply SelL.cons | exact Sel.here | apply Sel.there | apply SelL.skip)) ?_
    refine WO.yld (by rfl) (wanted_plain (by rfl)) (yld_slice_hi (by rfl) (by rfl) (by exact Try.runUnderlying42) (by exact Try.sizeOf31) 0 (by rfl) (by omega)) (by rfl) (by decide) (by repeat (first | exact SelL.nil | exact SelL.self | apply SelL.cons | exact Sel.here | apply Sel.there | apply SelL.skip)) ?_
    refine WO.yld (by rfl) (wanted_plain (by rfl)) (yld_move (by rfl)) (by rfl) (by decide) (by repeat (first | exact SelL.nil | exact SelL.self | apply SelL.cons | exact Sel.here | apply Sel.there | apply SelL.skip)) ?_
    refine WO.yld (by rfl) (wanted_plain (by rfl)) (yld_move (by rfl)) (by rfl) (by decide) (by repeat (first | exact SelL.nil | exact SelL.self | apply SelL.cons | exact Sel.here | apply Sel.there | apply SelL.skip)) ?_
    refine WO.yld (by rfl) (wanted_plain (by rfl)) (yld_slice_lo (by rfl) (by rfl) (by exact Try.runUnderlying42) (by exact Try.sizeOf31) k hj hkl) (by rfl) (by decide) (by repeat (first | exact SelL.nil | exact SelL.self | apply SelL.cons | exact Sel.here | apply Sel.there | apply SelL.skip)) ?_
    refine WO.eff (by rfl) (wanted_plain (by rfl)) (eff_append_self (k := 0) (by rfl) (by rfl) (by exact elem42) (by repeat (first | exact .here | apply Sel.there)) (by omega) hkl) (by rfl) (by decide) (by intro x; repeat (first | exact SelL.nil | exact SelL.self | apply SelL.cons | exact Sel.here | apply Sel.there | apply SelL.skip)) ?_
    rintro _ -
    try dsimp only
    refine WO.yld (by rfl) (wanted_plain (by rfl)) (yld_assign (by rfl)) (by rfl) (by decide) (by repeat (first | exact SelL.nil | exact SelL.self | apply SelL.cons | exact Sel.here | apply Sel.there | apply SelL.skip)) ?_
    refine WO.done ?_
    refine WK.seq ?_
    refine WK.region ?_
    refine WL.yld (wanted_plain (by rfl)) (yld_move (by rfl)) (by rfl) (by decide) ?_
    refine WL.yld (wanted_plain (by rfl)) (yld_move (by rfl)) (by rfl) (by decide) ?_
    refine WL.yld (wanted_plain (by rfl)) (yld_len (by rfl) (by exact Try.runUnderlying42)) (by rfl) (by decide) ?_
    refine WL.yld (wanted_plain (by rfl)) (yld_move (by rfl)) (by rfl) (by decide) ?_
    refine WL.yld (wanted_plain (by rfl)) (yld_slice_lohi (by rfl) (by rfl) (by rfl) (by exact Try.runUnderlying42) (by exact Try.sizeOf31) (len - k) len (by omega) (by rfl) (by omega) hl2) (by rfl) (by decide) ?_
    refine WL.eff0 (wanted_plain (by rfl)) (eff_clear (l := len - k) (by rfl) (by rfl) (by exact Try.runUnderlying42) (by exact Try.zeroValue31) (by rfl) (by intro v hv; simp [Builtin.zeroCells, Value.cells] at hv; obtain ⟨a, _, rfl⟩ := hv; simp [Nat.mod_one, Value.oneCell']) (by repeat (first | exact .here | apply Sel.there)) (by omega) (by omega) (by simp [Builtin.zeroCells, Value.cells])) (by rfl) ?_
    rintro _ -
    try dsimp only
    refine WL.done ?_
    refine WK.seq ?_
    refine WK.region ?_
    refine WL.yld (wanted_plain (by rfl)) (yld_move (by rfl)) (by rfl) (by decide) ?_
    refine WL.yld (wanted_plain (by rfl)) (yld_assign (by rfl)) (by rfl) (by decide) ?_
    refine WL.done ?_
    refine WK.ret ?_
    repeat (first | refine RQ.block ?_ | refine RQ.then_ ?_)
    refine RQ.body (results1 (by rfl) (by rfl)) (fun w s => ?_)
    refine ⟨(), trivial, by rw [Nat.zero_add], ?_⟩
    have h1 := del_list hl1 hkl
    rw [← h1]
    exact Sat.slShrink (len - k) s (by rw [h1, List.length_drop, Nat.mul_one, hl1]) (by omega)
set_option maxRecDepth 20000 in
set_option maxHeartbeats 1000000 in
theorem waiting_spec (q : Nat) (e : EndM) :
    Triple Try.prog 22 #[.pointer (some ⟨q, 0, none⟩)] [endR q e] (Unit) (fun _ => True) (fun _ => .int .i64 e.waiting.length) (fun _ => [endR q e]) := by
  refine Triple.endOpen ?_
  rintro ⟨wad, wlen, wcap, wvs, mb, mm⟩ hmm
  dsimp only [endL] at hmm ⊢
  refine Triple.of_body (args := [.pointer (some ⟨q, 0, none⟩)]) Try.func22 rfl Try.ntmps22 (by simp) (fun g F => ?_)
  dsimp only [numb, List.cons_append, List.nil_append]
  refine WK.seq ?_
  refine WK.region ?_
  refine WL.yld (wanted_plain (by rfl)) (yld_assign (by rfl)) (by rfl) (by decide) ?_
  refine WL.done ?_
  refine WK.seq ?_
  refine WK.region ?_
  refine WL.yld (wanted_plain (by rfl)) (yld_move (by rfl)) (by rfl) (by decide) ?_
  refine WL.yld (wanted_plain (by rfl)) (yld_nilCheck (by rfl)) (by rfl) (by decide) ?_
  refine WL.yld (wanted_plain (by rfl)) (yld_fieldAddr (by rfl) (by exact Try.runUnderlying85) (by rfl) (by exact Try.sizeOf42) (by rfl) (by rfl)) (by rfl) (by decide) ?_
  refine WL.yld (wanted_plain (by rfl)) (yld_load (by rfl) (by exact Try.isAgg42) (by repeat (first | exact .here | apply Sel.there)) (by rfl)) (by rfl) (by decide) ?_
  refine WL.yld (wanted_plain (by rfl)) (yld_len (by rfl) (by exact Try.runUnderlying42)) (by rfl) (by decide) ?_
  refine WL.yld (wanted_plain (by rfl)) (yld_assign (by rfl)) (by rfl) (by decide) ?_
  refine WL.done ?_
  refine WK.ret ?_
  repeat (first | refine RQ.block ?_ | refine RQ.then_ ?_)
  refine RQ.body (results1 (by rfl) (by rfl)) (fun w s => ?_)
  obtain ⟨e1, -, -⟩ := (s.sel1 (.there .here)).slLen
  have e2 := Sat.allLen (s.sel1 (.there (.there .here)))
  simp at e1
  refine ⟨(), trivial, by rw [← e2, e1], Sat.endShut ⟨wad, wlen, wcap, wvs, mb, mm⟩ hmm s⟩
set_option maxRecDepth 20000 in
set_option maxHeartbeats 1000000 in
theorem new_spec (i : Int) :
    Triple Try.prog 25 #[.int .i64 i] [] (Option Nat) (fun r => r.isSome = true ↔ 1 ≤ i ∧ i ≤ 16) (fun r => match r with | none => .tuple #[.pointer none, .int .i64 1] | some q => .tuple #[.pointer (some ⟨q, 0, none⟩), .int .i64 0]) (fun r => match r with | none => [] | some q => [endR q (newE i)]) := by
  refine Triple.of_body (args := [.int .i64 i]) Try.func25 rfl Try.ntmps25 (by simp) (fun g F => ?_)
  dsimp only [numb, List.cons_append, List.nil_append]
  refine WK.seq ?_
  refine WK.region ?_
  refine WL.yld (wanted_plain (by rfl)) (yld_assign (by rfl)) (by rfl) (by decide) ?_
  refine WL.yld (wanted_plain (by rfl)) (yld_assign (by rfl)) (by rfl) (by decide) ?_
  refine WL.done ?_
  refine WK.seq ?_
  refine WK.seq ?_
  refine WK.region ?_
  refine WL.yld (wanted_plain (by rfl)) (yld_move (by rfl)) (by rfl) (by decide) ?_
  refine WL.yld (wanted_plain (by rfl)) (yld_lss (by rfl) (by rfl)) (by rfl) (by decide) ?_
  refine WL.yld (wanted_plain (by rfl)) (yld_move (by rfl)) (by rfl) (by decide) ?_
  refine WL.split (d := 6) (by rfl) (fun hc6 => ?_) (fun hc6 => ?_)
  · skip
    have hc6 := of_decide_eq_true hc6
    refine WL.skip (unwanted_some (by rfl) (by rfl) (by rfl) (by rfl)) (by rfl) (by decide) ?_
    refine WL.skip (unwanted_some (by rfl) (by rfl) (by rfl) (by rfl)) (by rfl) (by decide) ?_
    refine WL.yld (wanted_plain (by rfl)) (yld_pick_true (by rfl) (by rfl)) (by rfl) (by decide) ?_
    refine WL.done ?_
    refine WK.cond (by rfl) (fun _ => ?_) (fun h => by cases h)
    refine WK.seq ?_
    refine WK.region ?_
    refine WL.yld (wanted_plain (by rfl)) (yld_assign (by rfl)) (by rfl) (by decide) ?_
    refine WL.yld (wanted_plain (by rfl)) (yld_assign (by rfl)) (by rfl) (by decide) ?_
    refine WL.done ?_
    refine WK.ret ?_
    repeat (first | refine RQ.block ?_ | refine RQ.then_ ?_)
    refine RQ.body (results2 (by rfl) (by rfl) (by rfl)) (fun w s => ?_)
    exact ⟨none, by simp; omega, rfl, s⟩
  · skip
    have hc6 := of_decide_eq_false hc6
    refine WL.yld (wanted_some (by rfl) (by rfl) (by rfl)) (yld_move (by rfl)) (by rfl) (by decide) ?_
    refine WL.yld (wanted_some (by rfl) (by rfl) (by rfl)) (yld_gtr (by rfl) (by rfl)) (by rfl) (by decide) ?_
    refine WL.yld (wanted_plain (by rfl)) (yld_pick_false (by rfl) (by rfl)) (by rfl) (by decide) ?_
    refine WL.done ?_
    refine WK.cond (by rfl) (fun hc9 => ?_) (fun hc9 => ?_)
    · skip
      have hc9 := of_decide_eq_true hc9
      refine WK.seq ?_
      refine WK.region ?_
      refine WL.yld (wanted_plain (by rfl)) (yld_assign (by rfl)) (by rfl) (by decide) ?_
      refine WL.yld (wanted_plain (by rfl)) (yld_assign (by rfl)) (by rfl) (by decide) ?_
      refine WL.done ?_
      refine WK.ret ?_
      repeat (first | refine RQ.block ?_ | refine RQ.then_ ?_)
      refine RQ.body (results2 (by rfl) (by rfl) (by rfl)) (fun w s => ?_)
      exact ⟨none, by simp; omega, rfl, s⟩
    · skip
      have hc9 := of_decide_eq_false hc9
      refine WK.skip ?_
      refine WK.seq ?_
      refine WK.region ?_
      refine WL.yld (wanted_plain (by rfl)) (yld_move (by rfl)) (by rfl) (by decide) ?_
      refine WL.eff (wanted_plain (by rfl)) (eff_makeMap) (by rfl) (by decide) ?_
      rintro b11 -
      try dsimp only
      refine WL.yld (wanted_plain (by rfl)) (yld_build (by repeat (first | exact Prts.nil | apply Prts.cons | rfl)) (by exact Try.zeroValue85) (by exact Try.runUnderlying85) (by exact fun w => places85 w Try.underlying85) (by first | decide | simp) (by repeat (first | exact Fill.nil | apply Fill.cons | exact SetAts.nil | apply SetAts.cons | exact SetAt.here | apply SetAt.there | rfl))) (by rfl) (by decide) ?_
      refine WL.eff (wanted_plain (by rfl)) (eff_box (by rfl) (by rfl)) (by rfl) (by decide) ?_
      rintro b13 -
      try dsimp only
      refine WL.yld (wanted_plain (by rfl)) (yld_assign (by rfl)) (by rfl) (by decide) ?_
      refine WL.yld (wanted_plain (by rfl)) (yld_assign (by rfl)) (by rfl) (by decide) ?_
      refine WL.done ?_
      refine WK.ret ?_
      repeat (first | refine RQ.block ?_ | refine RQ.then_ ?_)
      refine RQ.body (results2 (by rfl) (by rfl) (by rfl)) (fun w s => ?_)
      refine ⟨some b13, by simp; omega, rfl, ?_⟩
      refine Sat.endShut ⟨none, 0, 0, [], b11, []⟩ rfl ?_
      dsimp only [endL, newE, List.cons_append, List.nil_append]
      have s1 : Sat g w (mapI true b11 [] :: row true b13 85 _ :: F) := Sat.mapNew (s.perm (.swap _ _ _))
      have s2 := ((s1.nilSl true 31 1).allNil (Rl := byt 5 false)).allNil (Rl := byt 5 false)
      exact s2.toCs (by repeat (first | exact SelL.nil | exact SelL.self | apply SelL.cons | exact Sel.here | apply Sel.there | apply SelL.skip))
set_option maxRecDepth 20000 in
set_option maxHeartbeats 200000 in
theorem send_spec (q : Nat) (e : EndM) (p : Bool) (ad : Option Addr) (cap : Nat) (bs : List UInt8) (hbs : bs.length ≤ 140737488355328) :
    Triple Try.prog 13 #[.pointer (some ⟨q, 0, none⟩), .slice ad bs.length cap] [endR q e, sl p 5 1 ad bs.length cap (bs.map bv)] (Unit) (fun _ => True) (fun _ => .int .i64 (sendM e bs).1) (fun _ => [endR q (sendM e bs).2, sl p 5 1 ad bs.length cap (bs.map bv)]) := by
  refine Triple.endOpen ?_
  rintro ⟨wad, wlen, wcap, wvs, mb, mm⟩ hmm
  dsimp only [endL] at hmm ⊢
  refine Triple.of_body (args := [.pointer (some ⟨q, 0, none⟩), .slice ad bs.length cap]) Try.func13 rfl Try.ntmps13 (by simp) (fun g F => ?_)
  dsimp only [numb, List.cons_append, List.nil_append]
  refine WK.know (fun w s => And.intro (Sat.slLen (s.sel1 (.there .here))).1 (Sat.allLen (s.sel1 (.there (.there .here))))) (fun hlen => ?_)
  obtain ⟨hlen1, hlen2⟩ := hlen
  simp only [Nat.mul_one] at hlen1
  refine WK.seq ?_
  refine WK.region ?_
  refine WL.yld (wanted_plain (by rfl)) (yld_assign (by rfl)) (by rfl) (by decide) ?_
  refine WL.done ?_
  refine WK.seq ?_
  refine WK.seq ?_
  refine WK.region ?_
  refine WL.yld (wanted_plain (by rfl)) (yld_move (by rfl)) (by rfl) (by decide) ?_
  refine WL.yld (wanted_plain (by rfl)) (yld_len (by rfl) (by exact Try.runUnderlying31)) (by rfl) (by decide) ?_
  refine WL.yld (wanted_plain (by rfl)) (yld_gtr (by rfl) (by rfl)) (by rfl) (by decide) ?_
  refine WL.yld (wanted_plain (by rfl)) (yld_move (by rfl)) (by rfl) (by decide) ?_
  refine WL.split (d := 8) (by rfl) (fun hc8 => ?_) (fun hc8 => ?_)
  · skip
    have hc8 := of_decide_eq_true hc8
    refine WL.skip (unwanted_some (by rfl) (by rfl) (by rfl) (by rfl)) (by rfl) (by decide) ?_
    refine WL.skip (unwanted_some (by rfl) (by rfl) (by rfl) (by rfl)) (by rfl) (by decide) ?_
    refine WL.skip (unwanted_some (by rfl) (by rfl) (by rfl) (by rfl)) (by rfl) (by decide) ?_
    refine WL.skip (unwanted_some (by rfl) (by rfl) (by rfl) (by rfl)) (by rfl) (by decide) ?_
    refine WL.skip (unwanted_some (by rfl) (by rfl) (by rfl) (by rfl)) (by rfl) (by decide) ?_
    refine WL.skip (unwanted_some (by rfl) (by rfl) (by rfl) (by rfl)) (by rfl) (by decide) ?_
    refine WL.yld (wanted_plain (by rfl)) (yld_pick_true (by rfl) (by rfl)) (by rfl) (by decide) ?_
    refine WL.done ?_
    refine WK.cond (by rfl) (fun _ => ?_) (fun h => by cases h)
    refine WK.seq ?_
    refine WK.region ?_
    refine WL.yld (wanted_plain (by rfl)) (yld_assign (by rfl)) (by rfl) (by decide) ?_
    refine WL.done ?_
    refine WK.ret ?_
    repeat (first | refine RQ.block ?_ | refine RQ.then_ ?_)
    refine RQ.body (results1 (by rfl) (by rfl)) (fun w s => ?_)
    have hm : sendM e bs = (4, e) := if_pos (by omega)
    refine ⟨(), trivial, by rw [hm], ?_⟩
    rw [hm]
    exact Sat.endShut ⟨wad, wlen, wcap, wvs, mb, mm⟩ hmm s
  · skip
    have hc8 := of_decide_eq_false hc8
    refine WL.yld (wanted_some (by rfl) (by rfl) (by rfl)) (yld_move (by rfl)) (by rfl) (by decide) ?_
    refine WL.yld (wanted_some (by rfl) (by rfl) (by rfl)) (yld_nilCheck (by rfl)) (by rfl) (by decide) ?_
    refine WL.yld (wanted_some (by rfl) (by rfl) (by rfl)) (yld_fieldAddr (by rfl) (by exact Try.runUnderlying85) (by rfl) (by exact Try.sizeOf42) (by rfl) (by rfl)) (by rfl) (by decide) ?_
    refine WL.yld (wanted_some (by rfl) (by rfl) (by rfl)) (yld_load (by rfl) (by exact Try.isAgg42) (by repeat (first | exact .here | apply Sel.there)) (by rfl)) (by rfl) (by decide) ?_
    refine WL.yld (wanted_some (by rfl) (by rfl) (by rfl)) (yld_len (by rfl) (by exact Try.runUnderlying42)) (by rfl) (by decide) ?_
    refine WL.yld (wanted_some (by rfl) (by rfl) (by rfl)) (yld_geq (by rfl) (by rfl)) (by rfl) (by decide) ?_
    refine WL.yld (wanted_plain (by rfl)) (yld_pick_false (by rfl) (by rfl)) (by rfl) (by decide) ?_
    refine WL.done ?_
    refine WK.cond (by rfl) (fun hc15 => ?_) (fun hc15 => ?_)
    · skip
      have hc15 := of_decide_eq_true hc15
      refine WK.seq ?_
      refine WK.region ?_
      refine WL.yld (wanted_plain (by rfl)) (yld_assign (by rfl)) (by rfl) (by decide) ?_
      refine WL.done ?_
      refine WK.ret ?_
      repeat (first | refine RQ.block ?_ | refine RQ.then_ ?_)
      refine RQ.body (results1 (by rfl) (by rfl)) (fun w s => ?_)
      have hm : sendM e bs = (4, e) := if_pos (by omega)
      refine ⟨(), trivial, by rw [hm], ?_⟩
      rw [hm]
      exact Sat.endShut ⟨wad, wlen, wcap, wvs, mb, mm⟩ hmm s
    · skip
      have hc15 := of_decide_eq_false hc15
      refine WK.skip ?_
      refine WK.seq ?_
      refine WK.drawn (by kernel_rfl) [(0, 0), (1, 0), (2, 0), (3, 0), (4, 0), (5, 0), (6, 1), (7, 1), (8, 1), (9, 0), (10, 0), (11, 2)] [row true q 85 [.int .i64 e.window, .slice wad wlen wcap, .int .i64 e.acked, .int .i64 e.delivered, .map (some mb), .bool e.owing]] (by kernel_rfl) (by kernel_rfl) (by kernel_rfl) ?_
      refine WO.yld (by rfl) (wanted_plain (by rfl)) (yld_move (by rfl)) (by rfl) (by decide) (by repeat (first | exact SelL.nil | exact SelL.self | apply SelL.cons | exact Sel.here | apply Sel.there | apply SelL.skip)) ?_
      refine WO.yld (by rfl) (wanted_plain (by rfl)) (yld_move (by rfl)) (by rfl) (by decide) (by repeat (first | exact SelL.nil | exact SelL.self | apply SelL.cons | exact Sel.here | apply Sel.there | apply SelL.skip)) ?_
      refine WO.yld (by rfl) (wanted_plain (by rfl)) (yld_nilCheck (by rfl)) (by rfl) (by decide) (by repeat (first | exact SelL.nil | exact SelL.self | apply SelL.cons | exact Sel.here | apply Sel.there | apply SelL.skip)) ?_
      refine WO.yld (by rfl) (wanted_plain (by rfl)) (yld_fieldAddr (by rfl) (by exact Try.runUnderlying85) (by rfl) (by exact Try.sizeOf42) (by rfl) (by rfl)) (by rfl) (by decide) (by repeat (first | exact SelL.nil | exact SelL.self | apply SelL.cons | exact Sel.here | apply Sel.there | apply SelL.skip)) ?_
      refine WO.yld (by rfl) (wanted_plain (by rfl)) (yld_load (by rfl) (by exact Try.isAgg42) (by repeat (first | exact .here | apply Sel.there)) (by rfl)) (by rfl) (by decide) (by repeat (first | exact SelL.nil | exact SelL.self | apply SelL.cons | exact Sel.here | apply Sel.there | apply SelL.skip)) ?_
      refine WO.yld (by rfl) (wanted_plain (by rfl)) (yld_move (by rfl)) (by rfl) (by decide) (by repeat (first | exact SelL.nil | exact SelL.self | apply SelL.cons | exact Sel.here | apply Sel.there | apply SelL.skip)) ?_
      refine WO.eff (by rfl) (wanted_plain (by rfl)) (eff_call (by exact Try.call42) (by repeat (first | exact Evs.nil | apply Evs.cons | rfl)) (by repeat (first | exact SelL.nil | exact SelL.self | apply SelL.cons | exact Sel.here | apply Sel.there | apply SelL.skip)) (clone_spec p ad bs.length cap (bs.map bv) hbs)) (by rfl) (by decide) (by intro x; repeat (first | exact SelL.nil | exact SelL.self | apply SelL.cons | exact Sel.here | apply Sel.there | apply SelL.skip)) ?_
      rintro ⟨ad22, len22, cap22⟩ hl22
      dsimp only at hl22
      subst hl22
      try dsimp only
      refine WO.eff (by rfl) (wanted_plain (by rfl)) (eff_mkSlice1 (by rfl) (by rfl) (by exact Try.runUnderlying42) (by exact Try.sizeOf31) (by exact Try.zeroValue31) (by rfl) (by rfl) (by decide) (by rfl)) (by rfl) (by decide) (by intro x; repeat (first | exact SelL.nil | exact SelL.self | apply SelL.cons | exact Sel.here | apply Sel.there | apply SelL.skip)) ?_
      rintro b23 -
      try dsimp only
      refine WO.eff (by rfl) (wanted_plain (by rfl)) (eff_append (by rfl) (by rfl) (by exact elem42) (by exact Try.underlying42) (by repeat (first | exact SelL.nil | exact SelL.self | apply SelL.cons | exact Sel.here | apply Sel.there | apply SelL.skip)) (by omega) (by omega)) (by rfl) (by decide) (by intro x; repeat (first | exact SelL.nil | exact SelL.self | apply SelL.cons | exact Sel.here | apply Sel.there | apply SelL.skip)) ?_
      rintro ⟨ad24, cap24⟩ -
      try dsimp only
      refine WO.yld (by rfl) (wanted_plain (by rfl)) (yld_nilCheck (by rfl)) (by rfl) (by decide) (by repeat (first | exact SelL.nil | exact SelL.self | apply SelL.cons | exact Sel.here | apply Sel.there | apply SelL.skip)) ?_
      refine WO.yld (by rfl) (wanted_plain (by rfl)) (yld_fieldAddr (by rfl) (by exact Try.runUnderlying85) (by rfl) (by exact Try.sizeOf42) (by rfl) (by rfl)) (by rfl) (by decide) (by repeat (first | exact SelL.nil | exact SelL.self | apply SelL.cons | exact Sel.here | apply Sel.there | apply SelL.skip)) ?_
      refine WO.brk0 (by rfl) (wanted_plain (by rfl)) (eff_store (by rfl) (by rfl) (by exact Try.sizeOf42) (by rfl) (by rfl) (by rfl) (by repeat (first | exact .here | apply Sel.there)) (by repeat (first | exact SetAts.nil | apply SetAts.cons | exact SetAt.here | apply SetAt.there))) (by rfl) ?_
      rintro _ -
      try dsimp only
      refine WO.done ?_
      refine WK.seq ?_
      refine WK.region ?_
      refine WL.yld (wanted_plain (by rfl)) (yld_assign (by rfl)) (by rfl) (by decide) ?_
      refine WL.done ?_
      refine WK.ret ?_
      repeat (first | refine RQ.block ?_ | refine RQ.then_ ?_)
      refine RQ.body (results1 (by rfl) (by rfl)) (fun w s => ?_)
      have hm : sendM e bs = (0, { e with waiting := e.waiting ++ [bs] }) := if_neg (by omega)
      refine ⟨(), trivial, by rw [hm], ?_⟩
      rw [hm]
      have s1 := (s.sel1 (A := sl true 5 1 ad22 bs.length cap22 (bs.map bv)) (by repeat (first | exact .here | apply Sel.there))).slFreeze.bytShut
      have s2 := s1.sel (As := [allR (byt 5 false) wvs e.waiting, byt 5 false (.slice ad22 bs.length cap22) bs]) (by repeat (first | exact SelL.nil | exact SelL.self | apply SelL.cons | exact Sel.here | apply Sel.there | apply SelL.skip))
      have s3 := Sat.allSnoc s2
      exact Sat.endShut ⟨ad24, wlen + 1, cap24, wvs ++ [.slice ad22 bs.length cap22], mb, mm⟩ hmm (s3.toCs (by repeat (first | exact SelL.nil | exact SelL.self | apply SelL.cons | exact Sel.here | apply Sel.there | apply SelL.skip)))
set_option maxRecDepth 20000 in
set_option maxHeartbeats 1000000 in
theorem out_spec (q : Nat) (e : EndM) (ok : EndOk e) :
    Triple Try.prog 15 #[.pointer (some ⟨q, 0, none⟩)] [endR q e] (Option Addr × Nat × Nat × List Value) (fun r => r.2.1 = (outM e).1.length ∧ r.2.2.2.length = r.2.1) (fun r => .slice r.1 r.2.1 r.2.2.1) (fun r => [endR q (outM e).2, sl true 44 3 r.1 r.2.1 r.2.2.1 (pktC (outM e).1 r.2.2.2), allR (byt 5 true) r.2.2.2 ((outM e).1.map (·.b))]) := by
  refine Triple.endOpen ?_
  rintro ⟨wad, wlen, wcap, wvs, mb, mm⟩ hmm
  dsimp only [endL] at hmm ⊢
  refine Triple.of_body (args := [.pointer (some ⟨q, 0, none⟩)]) Try.func15 rfl Try.ntmps15 (by simp) (fun g F => ?_)
  dsimp only [numb, List.cons_append, List.nil_append]
  obtain ⟨hwin1, hwin2⟩ := ok.win
  obtain ⟨hack1, hack2⟩ := ok.ack
  obtain ⟨hdel1, hdel2⟩ := ok.del
  have hwait := ok.wait
  refine WK.know (fun w s => And.intro (Sat.slLen (s.sel1 (.there .here))) (Sat.allLen (s.sel1 (.there (.there .here))))) (fun hlen => ?_)
  obtain ⟨⟨hlen1, hlen3, -⟩, hlen2⟩ := hlen
  simp only [Nat.mul_one] at hlen1
  have hN : outN e = min wlen e.window.toNat := by unfold outN; rw [← hlen2, hlen1]
  generalize hh : outN e = h at hN
  have hh1 : h ≤ wlen := by omega
  have hh2 : h ≤ 16 := by omega
  refine WK.seq ?_
  refine WK.region ?_
  refine WL.yld (wanted_plain (by rfl)) (yld_assign (by rfl)) (by rfl) (by decide) ?_
  refine WL.done ?_
  refine WK.seq ?_
  refine WK.region ?_
  refine WL.yld (wanted_plain (by rfl)) (yld_assign (by rfl)) (by rfl) (by decide) ?_
  refine WL.done ?_
  refine WK.seq ?_
  refine WK.seq ?_
  refine WK.drawnQ (by kernel_rfl) [(0, 0), (1, 0), (2, 0), (3, 0), (4, 0), (5, 0), (6, 0), (7, 0), (8, 0), (9, 0), (10, 0), (11, 0), (12, 0), (13, 0), (14, 0), (15, 0), (16, 0)] (by kernel_rfl) (by kernel_rfl) (by kernel_rfl) ?_
  refine WO.yld (by rfl) (wanted_plain (by rfl)) (yld_move (by rfl)) (by rfl) (by decide) (by repeat (first | exact SelL.nil | exact SelL.self | apply SelL.cons | exact Sel.here | apply Sel.there | apply SelL.skip)) ?_
  refine WO.yld (by rfl) (wanted_plain (by rfl)) (yld_nilCheck (by rfl)) (by rfl) (by decide) (by repeat (first | exact SelL.nil | exact SelL.self | apply SelL.cons | exact Sel.here | apply Sel.there | apply SelL.skip)) ?_
  refine WO.yld (by rfl) (wanted_plain (by rfl)) (yld_fieldAddr (by rfl) (by exact Try.runUnderlying85) (by rfl) (by exact Try.sizeOf42) (by rfl) (by rfl)) (by rfl) (by decide) (by repeat (first | exact SelL.nil | exact SelL.self | apply SelL.cons | exact Sel.here | apply Sel.there | apply SelL.skip)) ?_
  refine WO.yld (by rfl) (wanted_plain (by rfl)) (yld_load (by rfl) (by exact Try.isAgg42) (by repeat (first | exact .here | apply Sel.there)) (by rfl)) (by rfl) (by decide) (by repeat (first | exact SelL.nil | exact SelL.self | apply SelL.cons | exact Sel.here | apply Sel.there | apply SelL.skip)) ?_
  refine WO.yld (by rfl) (wanted_plain (by rfl)) (yld_move (by rfl)) (by rfl) (by decide) (by repeat (first | exact SelL.nil | exact SelL.self | apply SelL.cons | exact Sel.here | apply Sel.there | apply SelL.skip)) ?_
  refine WO.yld (by rfl) (wanted_plain (by rfl)) (yld_nilCheck (by rfl)) (by rfl) (by decide) (by repeat (first | exact SelL.nil | exact SelL.self | apply SelL.cons | exact Sel.here | apply Sel.there | apply SelL.skip)) ?_
  refine WO.yld (by rfl) (wanted_plain (by rfl)) (yld_fieldAddr (by rfl) (by exact Try.runUnderlying85) (by rfl) (by exact Try.sizeOf42) (by rfl) (by rfl)) (by rfl) (by decide) (by repeat (first | exact SelL.nil | exact SelL.self | apply SelL.cons | exact Sel.here | apply Sel.there | apply SelL.skip)) ?_
  refine WO.yld (by rfl) (wanted_plain (by rfl)) (yld_load (by rfl) (by exact Try.isAgg42) (by repeat (first | exact .here | apply Sel.there)) (by rfl)) (by rfl) (by decide) (by repeat (first | exact SelL.nil | exact SelL.self | apply SelL.cons | exact Sel.here | apply Sel.there | apply SelL.skip)) ?_
  refine WO.yld (by rfl) (wanted_plain (by rfl)) (yld_len (by rfl) (by exact Try.runUnderlying42)) (by rfl) (by decide) (by repeat (first | exact SelL.nil | exact SelL.self | apply SelL.cons | exact Sel.here | apply Sel.there | apply SelL.skip)) ?_
  refine WO.yld (by rfl) (wanted_plain (by rfl)) (yld_move (by rfl)) (by rfl) (by decide) (by repeat (first | exact SelL.nil | exact SelL.self | apply SelL.cons | exact Sel.here | apply Sel.there | apply SelL.skip)) ?_
  refine WO.yld (by rfl) (wanted_plain (by rfl)) (yld_nilCheck (by rfl)) (by rfl) (by decide) (by repeat (first | exact SelL.nil | exact SelL.self | apply SelL.cons | exact Sel.here | apply Sel.there | apply SelL.skip)) ?_
  refine WO.yld (by rfl) (wanted_plain (by rfl)) (yld_fieldAddr (by rfl) (by exact Try.runUnderlying85) (by rfl) (by exact Try.sizeOf3) (by rfl) (by rfl)) (by rfl) (by decide) (by repeat (first | exact SelL.nil | exact SelL.self | apply SelL.cons | exact Sel.here | apply Sel.there | apply SelL.skip)) ?_
  refine WO.yld (by rfl) (wanted_plain (by rfl)) (yld_load (by rfl) (by exact Try.isAgg3) (by repeat (first | exact .here | apply Sel.there)) (by rfl)) (by rfl) (by decide) (by repeat (first | exact SelL.nil | exact SelL.self | apply SelL.cons | exact Sel.here | apply Sel.there | apply SelL.skip)) ?_
  refine WO.yld (by rfl) (wanted_plain (by rfl)) (yld_min (by rfl) (by rfl)) (by rfl) (by decide) (by repeat (first | exact SelL.nil | exact SelL.self | apply SelL.cons | exact Sel.here | apply Sel.there | apply SelL.skip)) ?_
  refine WO.yld (by rfl) (wanted_plain (by rfl)) (yld_slice_hi (by rfl) (by rfl) (by exact Try.runUnderlying42) (by exact Try.sizeOf31) h (by omega) (by omega)) (by rfl) (by decide) (by repeat (first | exact SelL.nil | exact SelL.self | apply SelL.cons | exact Sel.here | apply Sel.there | apply SelL.skip)) ?_
  refine WO.yld (by rfl) (wanted_plain (by rfl)) (yld_len (by rfl) (by exact Try.runUnderlying42)) (by rfl) (by decide) (by repeat (first | exact SelL.nil | exact SelL.self | apply SelL.cons | exact Sel.here | apply Sel.there | apply SelL.skip)) ?_
  refine WO.yld (by rfl) (wanted_plain (by rfl)) (yld_move (by rfl)) (by rfl) (by decide) (by repeat (first | exact SelL.nil | exact SelL.self | apply SelL.cons | exact Sel.here | apply Sel.there | apply SelL.skip)) ?_
  refine WO.done ?_
  refine WK.sat (fun w s => ((s.nilSl true 44 3).allNil (Rl := byt 5 true))) ?_
  refine WK.block ?_
  refine WK.loop (ι := Nat × Option Addr × Nat × List Value) (fun r => r.1 ≤ h ∧ r.2.2.2.length = r.1) (fun r => [(0, .pointer (some ⟨q, 0, none⟩)), (3, .slice r.2.1 r.1 r.2.2.1), (20, .slice wad h wcap), (21, .int .i64 h), (22, .int .i64 (r.1 : Int))]) (fun r => allR (byt 5 true) r.2.2.2 (e.waiting.take r.1) :: sl true 44 3 r.2.1 r.1 r.2.2.1 (pktC (pkts e.acked e.delivered 0 (e.waiting.take r.1)) r.2.2.2) :: (endL q e ⟨wad, wlen, wcap, wvs, mb, mm⟩ ++ F)) (fun r => h - r.1) ((0, none, 0, [])) (⟨Nat.zero_le _, rfl⟩) (by repeat (first | exact KK.nil | refine KK.cons (by first | rfl | (simp; done)) ?_)) (by repeat (first | exact SelL.nil | exact SelL.self | apply SelL.cons | exact Sel.here | apply Sel.there | apply SelL.skip)) ?_
  rintro ⟨k, oad, ocap, vs⟩ ⟨hk, hvs⟩ N hN2
  dsimp only at hk hvs ⊢
  dsimp only [endL, List.cons_append, List.nil_append]
  refine WK.seq ?_
  refine WK.region ?_
  refine WL.yld (wanted_plain (by rfl)) (yld_lss (by rfl) (by rfl)) (by rfl) (by decide) ?_
  refine WL.done ?_
  refine WK.seq ?_
  refine WK.cond (by rfl) (fun hc23 => ?_) (fun hc23 => ?_)
  · skip
    have hc23 := of_decide_eq_true hc23
    have hk5 : k < e.waiting.length := by omega
    obtain ⟨bs5, hb5⟩ : ∃ bs, e.waiting[k]? = some bs := ⟨_, List.getElem?_eq_getElem hk5⟩
    have hm5 : bs5.length ≤ 65536 := ok.msg _ (List.mem_of_getElem? hb5)
    refine WK.openS (fun w s => Sat.allByt hb5 (s.sel1 (A := allR (byt 5 false) wvs e.waiting) (by repeat (first | exact .here | apply Sel.there)))) ?_
    rintro ⟨ad5, len5, cap5⟩ ⟨hv, hl5⟩
    try dsimp only at hv hl5 ⊢
    try dsimp only [List.cons_append, List.nil_append]
    refine WK.skip ?_
    refine WK.seq ?_
    refine WK.block ?_
    refine WK.seq ?_
    refine WK.region ?_
    refine WL.yld (wanted_plain (by rfl)) (yld_move (by rfl)) (by rfl) (by decide) ?_
    refine WL.yld (wanted_plain (by rfl)) (yld_indexAddrS (by rfl) (by rfl) (by exact Try.runUnderlying42) (by exact Try.sizeOf31) (by repeat (first | exact .here | apply Sel.there)) (k) (by first | rfl | omega) (by omega) (by omega) (by exact Nat.mul_one _)) (by rfl) (by decide) ?_
    refine WL.yld (wanted_plain (by rfl)) (yld_loadS (by rfl) (by exact Try.isAgg31) (by repeat (first | exact .here | apply Sel.there)) (by exact hv)) (by rfl) (by decide) ?_
    refine WL.yld (wanted_plain (by rfl)) (yld_assign (by rfl)) (by rfl) (by decide) ?_
    refine WL.yld (wanted_plain (by rfl)) (yld_assign (by rfl)) (by rfl) (by decide) ?_
    refine WL.done ?_
    refine WK.drawn (by kernel_rfl) [(0, 0), (1, 0), (2, 0), (3, 0), (4, 0), (5, 0), (6, 0), (7, 0), (8, 0), (9, 0), (10, 0), (11, 0), (12, 0), (13, 1), (14, 0), (15, 1), (16, 1), (17, 0)] [row true q 85 [.int .i64 e.window, .slice wad wlen wcap, .int .i64 e.acked, .int .i64 e.delivered, .map (some mb), .bool e.owing]] (by kernel_rfl) (by kernel_rfl) (by kernel_rfl) ?_
    refine WO.yld (by rfl) (wanted_plain (by rfl)) (yld_move (by rfl)) (by rfl) (by decide) (by repeat (first | exact SelL.nil | exact SelL.self | apply SelL.cons | exact Sel.here | apply Sel.there | apply SelL.skip)) ?_
    refine WO.yld (by rfl) (wanted_plain (by rfl)) (yld_move (by rfl)) (by rfl) (by decide) (by repeat (first | exact SelL.nil | exact SelL.self | apply SelL.cons | exact Sel.here | apply Sel.there | apply SelL.skip)) ?_
    refine WO.yld (by rfl) (wanted_plain (by rfl)) (yld_nilCheck (by rfl)) (by rfl) (by decide) (by repeat (first | exact SelL.nil | exact SelL.self | apply SelL.cons | exact Sel.here | apply Sel.there | apply SelL.skip)) ?_
    refine WO.yld (by rfl) (wanted_plain (by rfl)) (yld_fieldAddr (by rfl) (by exact Try.runUnderlying85) (by rfl) (by exact Try.sizeOf3) (by rfl) (by rfl)) (by rfl) (by decide) (by repeat (first | exact SelL.nil | exact SelL.self | apply SelL.cons | exact Sel.here | apply Sel.there | apply SelL.skip)) ?_
    refine WO.yld (by rfl) (wanted_plain (by rfl)) (yld_load (by rfl) (by exact Try.isAgg3) (by repeat (first | exact .here | apply Sel.there)) (by rfl)) (by rfl) (by decide) (by repeat (first | exact SelL.nil | exact SelL.self | apply SelL.cons | exact Sel.here | apply Sel.there | apply SelL.skip)) ?_
    refine WO.yld (by rfl) (wanted_plain (by rfl)) (yld_move (by rfl)) (by rfl) (by decide) (by repeat (first | exact SelL.nil | exact SelL.self | apply SelL.cons | exact Sel.here | apply Sel.there | apply SelL.skip)) ?_
    refine WO.yld (by rfl) (wanted_plain (by rfl)) (yld_add (by rfl) (by rfl) (by first | exact w64 (by omega) (by omega) | rfl)) (by rfl) (by decide) (by repeat (first | exact SelL.nil | exact SelL.self | apply SelL.cons | exact Sel.here | apply Sel.there | apply SelL.skip)) ?_
    refine WO.yld (by rfl) (wanted_plain (by rfl)) (yld_add (by rfl) (by rfl) (by first | exact w64 (by omega) (by omega) | rfl)) (by rfl) (by decide) (by repeat (first | exact SelL.nil | exact SelL.self | apply SelL.cons | exact Sel.here | apply Sel.there | apply SelL.skip)) ?_
    refine WO.yld (by rfl) (wanted_plain (by rfl)) (yld_move (by rfl)) (by rfl) (by decide) (by repeat (first | exact SelL.nil | exact SelL.self | apply SelL.cons | exact Sel.here | apply Sel.there | apply SelL.skip)) ?_
    refine WO.yld (by rfl) (wanted_plain (by rfl)) (yld_nilCheck (by rfl)) (by rfl) (by decide) (by repeat (first | exact SelL.nil | exact SelL.self | apply SelL.cons | exact Sel.here | apply Sel.there | apply SelL.skip)) ?_
    refine WO.yld (by rfl) (wanted_plain (by rfl)) (yld_fieldAddr (by rfl) (by exact Try.runUnderlying85) (by rfl) (by exact Try.sizeOf3) (by rfl) (by rfl)) (by rfl) (by decide) (by repeat (first | exact SelL.nil | exact SelL.self | apply SelL.cons | exact Sel.here | apply Sel.there | apply SelL.skip)) ?_
    refine WO.yld (by rfl) (wanted_plain (by rfl)) (yld_load (by rfl) (by exact Try.isAgg3) (by repeat (first | exact .here | apply Sel.there)) (by rfl)) (by rfl) (by decide) (by repeat (first | exact SelL.nil | exact SelL.self | apply SelL.cons | exact Sel.here | apply Sel.there | apply SelL.skip)) ?_
    refine WO.yld (by rfl) (wanted_plain (by rfl)) (yld_move (by rfl)) (by rfl) (by decide) (by repeat (first | exact SelL.nil | exact SelL.self | apply SelL.cons | exact Sel.here | apply Sel.there | apply SelL.skip)) ?_
    refine WO.eff (by rfl) (wanted_plain (by rfl)) (eff_call (by exact Try.call42) (by repeat (first | exact Evs.nil | apply Evs.cons | rfl)) (by repeat (first | exact SelL.nil | exact SelL.self | apply SelL.cons | exact Sel.here | apply Sel.there | apply SelL.skip)) (clone_spec false ad5 len5 cap5 (bs5.map bv) (by omega))) (by rfl) (by decide) (by intro x; repeat (first | exact SelL.nil | exact SelL.self | apply SelL.cons | exact Sel.here | apply Sel.there | apply SelL.skip)) ?_
    rintro ⟨ad40, len40, cap40⟩ hl40
    dsimp only at hl40
    subst hl40
    try dsimp only
    refine WO.yld (by rfl) (wanted_plain (by rfl)) (yld_build (by repeat (first | exact Prts.nil | apply Prts.cons | rfl)) (by exact Try.zeroValue44) (by exact Try.runUnderlying44) (by exact fun w => places44 w Try.underlying44) (by first | decide | simp) (by repeat (first | exact Fill.nil | apply Fill.cons | exact SetAts.nil | apply SetAts.cons | exact SetAt.here | apply SetAt.there | rfl))) (by rfl) (by decide) (by repeat (first | exact SelL.nil | exact SelL.self | apply SelL.cons | exact Sel.here | apply Sel.there | apply SelL.skip)) ?_
    refine WO.eff (by rfl) (wanted_plain (by rfl)) (eff_mkSlice1 (by rfl) (by rfl) (by exact Try.runUnderlying35) (by exact Try.sizeOf44) (by exact Try.zeroValue44) (by rfl) (by rfl) (by decide) (by rfl)) (by rfl) (by decide) (by intro x; repeat (first | exact SelL.nil | exact SelL.self | apply SelL.cons | exact Sel.here | apply Sel.there | apply SelL.skip)) ?_
    rintro b42 -
    try dsimp only
    refine WO.eff (by rfl) (wanted_plain (by rfl)) (eff_append (by rfl) (by rfl) (by exact elem35) (by exact Try.underlying35) (by repeat (first | exact SelL.nil | exact SelL.self | apply SelL.cons | exact Sel.here | apply Sel.there | apply SelL.skip)) (by omega) (by omega)) (by rfl) (by decide) (by intro x; repeat (first | exact SelL.nil | exact SelL.self | apply SelL.cons | exact Sel.here | apply Sel.there | apply SelL.skip)) ?_
    rintro ⟨ad43, cap43⟩ -
    try dsimp only
    refine WO.yld (by rfl) (wanted_plain (by rfl)) (yld_assign (by rfl)) (by rfl) (by decide) (by repeat (first | exact SelL.nil | exact SelL.self | apply SelL.cons | exact Sel.here | apply Sel.there | apply SelL.skip)) ?_
    refine WO.done ?_
    refine WK.endBlock ?_
    refine WK.region ?_
    refine WL.yld (wanted_plain (by rfl)) (yld_add (by rfl) (by rfl) (by first | exact w64 (by omega) (by omega) | rfl)) (by rfl) (by decide) ?_
    refine WL.yld (wanted_plain (by rfl)) (yld_move (by rfl)) (by rfl) (by decide) ?_
    refine WL.done ?_
    refine WK.sat (fun w s => Sat.allSnoc ((s.sel1 (A := sl true 5 1 ad40 len40 cap40 (bs5.map bv)) (by repeat (first | exact .here | apply Sel.there))).bytShut.sel (As := [allR (byt 5 true) vs (e.waiting.take k), byt 5 true (.slice ad40 len40 cap40) bs5]) (by repeat (first | exact SelL.nil | exact SelL.self | apply SelL.cons | exact Sel.here | apply Sel.there | apply SelL.skip)))) ?_
    have htk : e.waiting.take (k + 1) = e.waiting.take k ++ [bs5] := by rw [List.take_add_one, hb5]; rfl
    have hpl : (pkts e.acked e.delivered 0 (e.waiting.take k)).length = vs.length := by rw [pkts_length, List.length_take]; omega
    have hpc : pktC (pkts e.acked e.delivered 0 (e.waiting.take (k + 1))) (vs ++ [.slice ad40 len40 cap40]) = pktC (pkts e.acked e.delivered 0 (e.waiting.take k)) vs ++ [.int .i64 (e.acked + k + 1), .int .i64 e.delivered, .slice ad40 len40 cap40] := by
      rw [htk, pkts_snoc, pktC_snoc _ _ _ _ hpl, Nat.zero_add, List.length_take, Nat.min_eq_left (by omega)]
    rw [← hpc, ← htk]
    exact WK.next hN2 (k + 1, ad43, cap43, vs ++ [.slice ad40 len40 cap40]) ⟨by omega, by simp [hvs]⟩ (by dsimp only; omega) (by repeat (first | exact KK.nil | refine KK.cons (by first | rfl | (simp; done)) ?_)) (by repeat (first | exact SelL.nil | exact SelL.self | apply SelL.cons | exact Sel.here | apply Sel.there | apply SelL.skip))
  · skip
    have hc23 := of_decide_eq_false hc23
    obtain rfl : k = h := by omega
    refine WK.exit ?_
    repeat (first | refine XQ.then_ ?_ | refine XQ.block (by rfl) ?_)
    refine XQ.here ?_
    refine WK.seq ?_
    refine WK.seq ?_
    refine WK.region ?_
    refine WL.yld (wanted_plain (by rfl)) (yld_move (by rfl)) (by rfl) (by decide) ?_
    refine WL.yld (wanted_plain (by rfl)) (yld_len (by rfl) (by exact Try.runUnderlying35)) (by rfl) (by decide) ?_
    refine WL.yld (wanted_plain (by rfl)) (yld_eql (by rfl) (by rfl)) (by rfl) (by decide) ?_
    refine WL.yld (wanted_plain (by rfl)) (yld_move (by rfl)) (by rfl) (by decide) ?_
    refine WL.split (d := 48) (by rfl) (fun hc48 => ?_) (fun hc48 => ?_)
    · skip
      have hc48 := of_decide_eq_true hc48
      refine WL.yld (wanted_some (by rfl) (by rfl) (by rfl)) (yld_move (by rfl)) (by rfl) (by decide) ?_
      refine WL.yld (wanted_some (by rfl) (by rfl) (by rfl)) (yld_nilCheck (by rfl)) (by rfl) (by decide) ?_
      refine WL.yld (wanted_some (by rfl) (by rfl) (by rfl)) (yld_fieldAddr (by rfl) (by exact Try.runUnderlying85) (by rfl) (by exact Try.sizeOf4) (by rfl) (by rfl)) (by rfl) (by decide) ?_
      refine WL.yld (wanted_some (by rfl) (by rfl) (by rfl)) (yld_load (by rfl) (by exact Try.isAgg4) (by repeat (first | exact .here | apply Sel.there)) (by rfl)) (by rfl) (by decide) ?_
      refine WL.yld (wanted_plain (by rfl)) (yld_pick_true (by rfl) (by rfl)) (by rfl) (by decide) ?_
      refine WL.done ?_
      refine WK.cond (by rfl) (fun hc53 => ?_) (fun hc53 => ?_)
      · skip
        refine WK.region ?_
        refine WL.yld (wanted_plain (by rfl)) (yld_move (by rfl)) (by rfl) (by decide) ?_
        refine WL.yld (wanted_plain (by rfl)) (yld_move (by rfl)) (by rfl) (by decide) ?_
        refine WL.yld (wanted_plain (by rfl)) (yld_nilCheck (by rfl)) (by rfl) (by decide) ?_
        refine WL.yld (wanted_plain (by rfl)) (yld_fieldAddr (by rfl) (by exact Try.runUnderlying85) (by rfl) (by exact Try.sizeOf3) (by rfl) (by rfl)) (by rfl) (by decide) ?_
        refine WL.yld (wanted_plain (by rfl)) (yld_load (by rfl) (by exact Try.isAgg3) (by repeat (first | exact .here | apply Sel.there)) (by rfl)) (by rfl) (by decide) ?_
        refine WL.yld (wanted_plain (by rfl)) (yld_build (by repeat (first | exact Prts.nil | apply Prts.cons | rfl)) (by exact Try.zeroValue44) (by exact Try.runUnderlying44) (by exact fun w => places44 w Try.underlying44) (by first | decide | simp) (by repeat (first | exact Fill.nil | apply Fill.cons | exact SetAts.nil | apply SetAts.cons | exact SetAt.here | apply SetAt.there | rfl))) (by rfl) (by decide) ?_
        refine WL.eff (wanted_plain (by rfl)) (eff_mkSlice1 (by rfl) (by rfl) (by exact Try.runUnderlying35) (by exact Try.sizeOf44) (by exact Try.zeroValue44) (by rfl) (by rfl) (by decide) (by rfl)) (by rfl) (by decide) ?_
        rintro b60 -
        try dsimp only
        refine WL.eff (wanted_plain (by rfl)) (eff_append (by rfl) (by rfl) (by exact elem35) (by exact Try.underlying35) (by repeat (first | exact SelL.nil | exact SelL.self | apply SelL.cons | exact Sel.here | apply Sel.there | apply SelL.skip)) (by omega) (by omega)) (by rfl) (by decide) ?_
        rintro ⟨ad61, cap61⟩ -
        try dsimp only
        refine WL.yld (wanted_plain (by rfl)) (yld_assign (by rfl)) (by rfl) (by decide) ?_
        refine WL.done ?_
        refine WK.seq ?_
        refine WK.region ?_
        refine WL.yld (wanted_plain (by rfl)) (yld_move (by rfl)) (by rfl) (by decide) ?_
        refine WL.yld (wanted_plain (by rfl)) (yld_nilCheck (by rfl)) (by rfl) (by decide) ?_
        refine WL.yld (wanted_plain (by rfl)) (yld_fieldAddr (by rfl) (by exact Try.runUnderlying85) (by rfl) (by exact Try.sizeOf4) (by rfl) (by rfl)) (by rfl) (by decide) ?_
        refine WL.eff0 (wanted_plain (by rfl)) (eff_store (by rfl) (by rfl) (by exact Try.sizeOf4) (by rfl) (by rfl) (by rfl) (by repeat (first | exact .here | apply Sel.there)) (by repeat (first | exact SetAts.nil | apply SetAts.cons | exact SetAt.here | apply SetAt.there))) (by rfl) ?_
        rintro _ -
        try dsimp only
        refine WL.done ?_
        refine WK.seq ?_
        refine WK.region ?_
        refine WL.yld (wanted_plain (by rfl)) (yld_move (by rfl)) (by rfl) (by decide) ?_
        refine WL.yld (wanted_plain (by rfl)) (yld_assign (by rfl)) (by rfl) (by decide) ?_
        refine WL.done ?_
        refine WK.ret ?_
        repeat (first | refine RQ.block ?_ | refine RQ.then_ ?_)
        refine RQ.body (results1 (by rfl) (by rfl)) (fun w s => ?_)
        obtain rfl : k = 0 := by omega
        obtain rfl : vs = [] := List.eq_nil_of_length_eq_zero hvs
        have hm : outM e = ([⟨0, e.delivered, []⟩], { e with owing := false }) := by unfold outM; rw [if_pos ⟨hh, hc53⟩]
        refine ⟨(ad61, 0 + 1, cap61, [.slice none 0 0]), ⟨by rw [hm]; rfl, rfl⟩, rfl, ?_⟩
        rw [hm]
        refine Sat.endShut ⟨wad, wlen, wcap, wvs, mb, mm⟩ hmm ?_
        have s1 : Sat g w (byt 5 true (.slice none 0 0) [] :: _) := (s.nilSl true 5 1).bytShut (bs := [])
        have s2 := Sat.allCons ((s1.allNil (Rl := byt 5 true)).perm (.swap _ _ _))
        exact s2.toCs (by repeat (first | exact SelL.nil | exact SelL.self | apply SelL.cons | exact Sel.here | apply Sel.there | apply SelL.skip))
      · skip
        refine WK.skip ?_
        refine WK.seq ?_
        refine WK.region ?_
        refine WL.yld (wanted_plain (by rfl)) (yld_move (by rfl)) (by rfl) (by decide) ?_
        refine WL.yld (wanted_plain (by rfl)) (yld_nilCheck (by rfl)) (by rfl) (by decide) ?_
        refine WL.yld (wanted_plain (by rfl)) (yld_fieldAddr (by rfl) (by exact Try.runUnderlying85) (by rfl) (by exact Try.sizeOf4) (by rfl) (by rfl)) (by rfl) (by decide) ?_
        refine WL.eff0 (wanted_plain (by rfl)) (eff_store (by rfl) (by rfl) (by exact Try.sizeOf4) (by rfl) (by rfl) (by rfl) (by repeat (first | exact .here | apply Sel.there)) (by repeat (first | exact SetAts.nil | apply SetAts.cons | exact SetAt.here | apply SetAt.there))) (by rfl) ?_
        rintro _ -
        try dsimp only
        refine WL.done ?_
        refine WK.seq ?_
        refine WK.region ?_
        refine WL.yld (wanted_plain (by rfl)) (yld_move (by rfl)) (by rfl) (by decide) ?_
        refine WL.yld (wanted_plain (by rfl)) (yld_assign (by rfl)) (by rfl) (by decide) ?_
        refine WL.done ?_
        refine WK.ret ?_
        repeat (first | refine RQ.block ?_ | refine RQ.then_ ?_)
        refine RQ.body (results1 (by rfl) (by rfl)) (fun w s => ?_)
        have hm : outM e = (outL e, { e with owing := false }) := by unfold outM; rw [if_neg (fun h => by rw [hc53] at h; cases h.2)]
        have e1 : outL e = pkts e.acked e.delivered 0 (e.waiting.take k) := by rw [outL, hh]
        refine ⟨(oad, k, ocap, vs), ⟨by rw [hm, e1, pkts_length, List.length_take]; dsimp only; omega, hvs⟩, rfl, ?_⟩
        rw [hm]
        refine Sat.endShut ⟨wad, wlen, wcap, wvs, mb, mm⟩ hmm ?_
        rw [show (outL e).map (·.b) = e.waiting.take k from by rw [e1, pkts_b], e1]
        exact s.toCs (by repeat (first | exact SelL.nil | exact SelL.self | apply SelL.cons | exact Sel.here | apply Sel.there | apply SelL.skip))
    · skip
      have hc48 := of_decide_eq_false hc48
      refine WL.skip (unwanted_some (by rfl) (by rfl) (by rfl) (by rfl)) (by rfl) (by decide) ?_
      refine WL.skip (unwanted_some (by rfl) (by rfl) (by rfl) (by rfl)) (by rfl) (by decide) ?_
      refine WL.skip (unwanted_some (by rfl) (by rfl) (by rfl) (by rfl)) (by rfl) (by decide) ?_
      refine WL.skip (unwanted_some (by rfl) (by rfl) (by rfl) (by rfl)) (by rfl) (by decide) ?_
      refine WL.yld (wanted_plain (by rfl)) (yld_pick_false (by rfl) (by rfl)) (by rfl) (by decide) ?_
      refine WL.done ?_
      refine WK.cond (by rfl) (fun h => by cases h) (fun _ => ?_)
      refine WK.skip ?_
      refine WK.seq ?_
      refine WK.region ?_
      refine WL.yld (wanted_plain (by rfl)) (yld_move (by rfl)) (by rfl) (by decide) ?_
      refine WL.yld (wanted_plain (by rfl)) (yld_nilCheck (by rfl)) (by rfl) (by decide) ?_
      refine WL.yld (wanted_plain (by rfl)) (yld_fieldAddr (by rfl) (by exact Try.runUnderlying85) (by rfl) (by exact Try.sizeOf4) (by rfl) (by rfl)) (by rfl) (by decide) ?_
      refine WL.eff0 (wanted_plain (by rfl)) (eff_store (by rfl) (by rfl) (by exact Try.sizeOf4) (by rfl) (by rfl) (by rfl) (by repeat (first | exact .here | apply Sel.there)) (by repeat (first | exact SetAts.nil | apply SetAts.cons | exact SetAt.here | apply SetAt.there))) (by rfl) ?_
      rintro _ -
      try dsimp only
      refine WL.done ?_
      refine WK.seq ?_
      refine WK.region ?_
      refine WL.yld (wanted_plain (by rfl)) (yld_move (by rfl)) (by rfl) (by decide) ?_
      refine WL.yld (wanted_plain (by rfl)) (yld_assign (by rfl)) (by rfl) (by decide) ?_
      refine WL.done ?_
      refine WK.ret ?_
      repeat (first | refine RQ.block ?_ | refine RQ.then_ ?_)
      refine RQ.body (results1 (by rfl) (by rfl)) (fun w s => ?_)
      have hm : outM e = (outL e, { e with owing := false }) := by unfold outM; rw [if_neg (fun h => by omega)]
      have e1 : outL e = pkts e.acked e.delivered 0 (e.waiting.take k) := by rw [outL, hh]
      refine ⟨(oad, k, ocap, vs), ⟨by rw [hm, e1, pkts_length, List.length_take]; dsimp only; omega, hvs⟩, rfl, ?_⟩
      rw [hm]
      refine Sat.endShut ⟨wad, wlen, wcap, wvs, mb, mm⟩ hmm ?_
      rw [show (outL e).map (·.b) = e.waiting.take k from by rw [e1, pkts_b], e1]
      exact s.toCs (by repeat (first | exact SelL.nil | exact SelL.self | apply SelL.cons | exact Sel.here | apply Sel.there | apply SelL.skip))
set_option maxRecDepth 20000 in
set_option maxHeartbeats 400000 in
theorem in_spec (q : Nat) (e : EndM) (ok : InOk e) (p : Pkt) (pp : Bool) (pad : Option Addr) (pcap : Nat) :
    Triple Try.prog 19 #[.pointer (some ⟨q, 0, none⟩), .agg #[.int .i64 p.seq, .int .i64 p.ack, .slice pad p.b.length pcap]] [endR q e, sl pp 5 1 pad p.b.length pcap (p.b.map bv)] (Option Addr × Nat × Nat × List Value) (fun r => r.2.1 = (inM e p).1.length) (fun r => .slice r.1 r.2.1 r.2.2.1) (fun r => [endR q (inM e p).2, sl true 31 1 r.1 r.2.1 r.2.2.1 r.2.2.2, allR (byt 5 false) r.2.2.2 (inM e p).1, sl pp 5 1 pad p.b.length pcap (p.b.map bv)]) := by
  refine Triple.endOpen ?_
  rintro ⟨wad, wlen, wcap, wvs, mb, mm⟩ hmm
  dsimp only [endL] at hmm ⊢
  refine Triple.of_body (args := [.pointer (some ⟨q, 0, none⟩), .agg #[.int .i64 p.seq, .int .i64 p.ack, .slice pad p.b.length pcap]]) Try.func19 rfl Try.ntmps19 (by simp) (fun g F => ?_)
  dsimp only [numb, List.cons_append, List.nil_append]
  obtain ⟨hack1, hack2⟩ := ok.ack
  obtain ⟨hdel1, hdel2⟩ := ok.del
  have hwait := ok.wait
  have hheld := ok.held
  refine WK.know (fun w s => And.intro (Sat.slLen (s.sel1 (.there .here))) (Sat.allLen (s.sel1 (.there (.there .here))))) (fun hlen => ?_)
  obtain ⟨⟨hlen1, hlen3, -⟩, hlen2⟩ := hlen
  simp only [Nat.mul_one] at hlen1
  refine WK.seq ?_
  refine WK.region ?_
  refine WL.eff (wanted_plain (by rfl)) (eff_box (by rfl) (by rfl)) (by rfl) (by decide) ?_
  rintro b3 -
  try dsimp only
  refine WL.yld (wanted_plain (by rfl)) (yld_assign (by rfl)) (by rfl) (by decide) ?_
  refine WL.done ?_
  refine WK.seq ?_
  refine WK.seq ?_
  refine WK.drawn (by kernel_rfl) [(0, 0), (1, 1), (2, 0), (3, 0), (4, 0), (5, 0), (6, 0), (7, 0), (8, 0), (9, 0), (10, 0), (11, 0), (12, 0), (13, 0), (14, 0), (15, 0), (16, 0), (17, 0), (18, 0), (19, 0), (20, 0), (21, 0), (22, 0), (23, 0), (24, 0), (25, 0), (26, 0), (27, 0)] [row true q 85 [.int .i64 e.window, .slice wad wlen wcap, .int .i64 e.acked, .int .i64 e.delivered, .map (some mb), .bool e.owing], row true b3 44 [.int .i64 p.seq, .int .i64 p.ack, .slice pad p.b.length pcap]] (by kernel_rfl) (by kernel_rfl) (by kernel_rfl) ?_
  refine WO.yld (by rfl) (wanted_plain (by rfl)) (yld_loadA (by rfl) (by exact Try.isAgg44) (by exact Try.sizeOf44) (by repeat (first | exact .here | apply Sel.there)) (by repeat (first | exact Cells.nil | apply Cells.cons | rfl))) (by rfl) (by decide) (by repeat (first | exact SelL.nil | exact SelL.self | apply SelL.cons | exact Sel.here | apply Sel.there | apply SelL.skip)) ?_
  refine WO.eff (by rfl) (wanted_plain (by rfl)) (eff_call (by exact Try.call43) (by repeat (first | exact Evs.nil | apply Evs.cons | rfl)) (by repeat (first | exact SelL.nil | exact SelL.self | apply SelL.cons | exact Sel.here | apply Sel.there | apply SelL.skip)) (valid_spec false p.seq p.ack pad p.b.length pcap)) (by rfl) (by decide) (by intro x; repeat (first | exact SelL.nil | exact SelL.self | apply SelL.cons | exact Sel.here | apply Sel.there | apply SelL.skip)) ?_
  rintro _ -
  try dsimp only
  refine WO.yld (by rfl) (wanted_plain (by rfl)) (yld_not (by rfl)) (by rfl) (by decide) (by repeat (first | exact SelL.nil | exact SelL.self | apply SelL.cons | exact Sel.here | apply Sel.there | apply SelL.skip)) ?_
  refine WO.yld (by rfl) (wanted_plain (by rfl)) (yld_move (by rfl)) (by rfl) (by decide) (by repeat (first | exact SelL.nil | exact SelL.self | apply SelL.cons | exact Sel.here | apply Sel.there | apply SelL.skip)) ?_
  refine WO.split (d := 14) (by rfl) (fun hc14 => ?_) (fun hc14 => ?_)
  · skip
    refine WO.skip (by rfl) (unwanted_some (by rfl) (by rfl) (by rfl) (by rfl)) (by rfl) (by decide) (by repeat (first | exact SelL.nil | exact SelL.self | apply SelL.cons | exact Sel.here | apply Sel.there | apply SelL.skip)) ?_
    refine WO.skip (by rfl) (unwanted_some (by rfl) (by rfl) (by rfl) (by rfl)) (by rfl) (by decide) (by repeat (first | exact SelL.nil | exact SelL.self | apply SelL.cons | exact Sel.here | apply Sel.there | apply SelL.skip)) ?_
    refine WO.skip (by rfl) (unwanted_some (by rfl) (by rfl) (by rfl) (by rfl)) (by rfl) (by decide) (by repeat (first | exact SelL.nil | exact SelL.self | apply SelL.cons | exact Sel.here | apply Sel.there | apply SelL.skip)) ?_
    refine WO.skip (by rfl) (unwanted_some (by rfl) (by rfl) (by rfl) (by rfl)) (by rfl) (by decide) (by repeat (first | exact SelL.nil | exact SelL.self | apply SelL.cons | exact Sel.here | apply Sel.there | apply SelL.skip)) ?_
    refine WO.skip (by rfl) (unwanted_some (by rfl) (by rfl) (by rfl) (by rfl)) (by rfl) (by decide) (by repeat (first | exact SelL.nil | exact SelL.self | apply SelL.cons | exact Sel.here | apply Sel.there | apply SelL.skip)) ?_
    refine WO.skip (by rfl) (unwanted_some (by rfl) (by rfl) (by rfl) (by rfl)) (by rfl) (by decide) (by repeat (first | exact SelL.nil | exact SelL.self | apply SelL.cons | exact Sel.here | apply Sel.there | apply SelL.skip)) ?_
    refine WO.skip (by rfl) (unwanted_some (by rfl) (by rfl) (by rfl) (by rfl)) (by rfl) (by decide) (by repeat (first | exact SelL.nil | exact SelL.self | apply SelL.cons | exact Sel.here | apply Sel.there | apply SelL.skip)) ?_
    refine WO.skip (by rfl) (unwanted_some (by rfl) (by rfl) (by rfl) (by rfl)) (by rfl) (by decide) (by repeat (first | exact SelL.nil | exact SelL.self | apply SelL.cons | exact Sel.here | apply Sel.there | apply SelL.skip)) ?_
    refine WO.skip (by rfl) (unwanted_some (by rfl) (by rfl) (by rfl) (by rfl)) (by rfl) (by decide) (by repeat (first | exact SelL.nil | exact SelL.self | apply SelL.cons | exact Sel.here | apply Sel.there | apply SelL.skip)) ?_
    refine WO.skip (by rfl) (unwanted_some (by rfl) (by rfl) (by rfl) (by rfl)) (by rfl) (by decide) (by repeat (first | exact SelL.nil | exact SelL.self | apply SelL.cons | exact Sel.here | apply Sel.there | apply SelL.skip)) ?_
    refine WO.skip (by rfl) (unwanted_some (by rfl) (by rfl) (by rfl) (by rfl)) (by rfl) (by decide) (by repeat (first | exact SelL.nil | exact SelL.self | apply SelL.cons | exact Sel.here | apply Sel.there | apply SelL.skip)) ?_
    refine WO.skip (by rfl) (unwanted_some (by rfl) (by rfl) (by rfl) (by rfl)) (by rfl) (by decide) (by repeat (first | exact SelL.nil | exact SelL.self | apply SelL.cons | exact Sel.here | apply Sel.there | apply SelL.skip)) ?_
    refine WO.skip (by rfl) (unwanted_some (by rfl) (by rfl) (by rfl) (by rfl)) (by rfl) (by decide) (by repeat (first | exact SelL.nil | exact SelL.self | apply SelL.cons | exact Sel.here | apply Sel.there | apply SelL.skip)) ?_
    refine WO.yld (by rfl) (wanted_plain (by rfl)) (yld_pick_true (by rfl) (by rfl)) (by rfl) (by decide) (by repeat (first | exact SelL.nil | exact SelL.self | apply SelL.cons | exact Sel.here | apply Sel.there | apply SelL.skip)) ?_
    refine WO.yld (by rfl) (wanted_plain (by rfl)) (yld_move (by rfl)) (by rfl) (by decide) (by repeat (first | exact SelL.nil | exact SelL.self | apply SelL.cons | exact Sel.here | apply Sel.there | apply SelL.skip)) ?_
    refine WO.skip (by rfl) (unwanted_some (by rfl) (by rfl) (by rfl) (by rfl)) (by rfl) (by decide) (by repeat (first | exact SelL.nil | exact SelL.self | apply SelL.cons | exact Sel.here | apply Sel.there | apply SelL.skip)) ?_
    refine WO.skip (by rfl) (unwanted_some (by rfl) (by rfl) (by rfl) (by rfl)) (by rfl) (by decide) (by repeat (first | exact SelL.nil | exact SelL.self | apply SelL.cons | exact Sel.here | apply Sel.there | apply SelL.skip)) ?_
    refine WO.skip (by rfl) (unwanted_some (by rfl) (by rfl) (by rfl) (by rfl)) (by rfl) (by decide) (by repeat (first | exact SelL.nil | exact SelL.self | apply SelL.cons | exact Sel.here | apply Sel.there | apply SelL.skip)) ?_
    refine WO.skip (by rfl) (unwanted_some (by rfl) (by rfl) (by rfl) (by rfl)) (by rfl) (by decide) (by repeat (first | exact SelL.nil | exact SelL.self | apply SelL.cons | exact Sel.here | apply Sel.there | apply SelL.skip)) ?_
    refine WO.skip (by rfl) (unwanted_some (by rfl) (by rfl) (by rfl) (by rfl)) (by rfl) (by decide) (by repeat (first | exact SelL.nil | exact SelL.self | apply SelL.cons | exact Sel.here | apply Sel.there | apply SelL.skip)) ?_
    refine WO.skip (by rfl) (unwanted_some (by rfl) (by rfl) (by rfl) (by rfl)) (by rfl) (by decide) (by repeat (first | exact SelL.nil | exact SelL.self | apply SelL.cons | exact Sel.here | apply Sel.there | apply SelL.skip)) ?_
    refine WO.skip (by rfl) (unwanted_some (by rfl) (by rfl) (by rfl) (by rfl)) (by rfl) (by decide) (by repeat (first | exact SelL.nil | exact SelL.self | apply SelL.cons | exact Sel.here | apply Sel.there | apply SelL.skip)) ?_
    refine WO.skip (by rfl) (unwanted_some (by rfl) (by rfl) (by rfl) (by rfl)) (by rfl) (by decide) (by repeat (first | exact SelL.nil | exact SelL.self | apply SelL.cons | exact Sel.here | apply Sel.there | apply SelL.skip)) ?_
    refine WO.yld (by rfl) (wanted_plain (by rfl)) (yld_pick_true (by rfl) (by rfl)) (by rfl) (by decide) (by repeat (first | exact SelL.nil | exact SelL.self | apply SelL.cons | exact Sel.here | apply Sel.there | apply SelL.skip)) ?_
    refine WO.done ?_
    refine WK.cond (by rfl) (fun _ => ?_) (fun h => by cases h)
    refine WK.seq ?_
    refine WK.region ?_
    refine WL.yld (wanted_plain (by rfl)) (yld_assign (by rfl)) (by rfl) (by decide) ?_
    refine WL.done ?_
    refine WK.ret ?_
    repeat (first | refine RQ.block ?_ | refine RQ.then_ ?_)
    refine RQ.body (results1 (by rfl) (by rfl)) (fun w s => ?_)
    have hm : inM e p = ([], e) := if_pos (.inl (not_true_of hc14))
    refine ⟨(none, 0, 0, []), by rw [hm]; rfl, rfl, ?_⟩
    rw [hm]
    refine Sat.endShut ⟨wad, wlen, wcap, wvs, mb, mm⟩ hmm ?_
    exact ((s.nilSl true 31 1).allNil (Rl := byt 5 false)).toCs (by repeat (first | exact SelL.nil | exact SelL.self | apply SelL.cons | exact Sel.here | apply Sel.there | apply SelL.skip))
  · skip
    have hval := not_false_of hc14
    obtain ⟨hv1, hv2, hv3, hv4⟩ : 0 ≤ p.seq ∧ 0 ≤ p.ack ∧ p.b.length ≤ 65536 ∧ (0 < p.seq ∨ p.b.length = 0) := by simpa [validB] using hval
    refine WO.yld (by rfl) (wanted_some (by rfl) (by rfl) (by rfl)) (yld_fieldAddr (by rfl) (by exact Try.runUnderlying44) (by rfl) (by exact Try.sizeOf3) (by rfl) (by rfl)) (by rfl) (by decide) (by repeat (first | exact SelL.nil | exact SelL.self | apply SelL.cons | exact Sel.here | apply Sel.there | apply SelL.skip)) ?_
    refine WO.yld (by rfl) (wanted_some (by rfl) (by rfl) (by rfl)) (yld_load (by rfl) (by exact Try.isAgg3) (by repeat (first | exact .here | apply Sel.there)) (by rfl)) (by rfl) (by decide) (by repeat (first | exact SelL.nil | exact SelL.self | apply SelL.cons | exact Sel.here | apply Sel.there | apply SelL.skip)) ?_
    refine WO.yld (by rfl) (wanted_some (by rfl) (by rfl) (by rfl)) (yld_move (by rfl)) (by rfl) (by decide) (by repeat (first | exact SelL.nil | exact SelL.self | apply SelL.cons | exact Sel.here | apply Sel.there | apply SelL.skip)) ?_
    refine WO.yld (by rfl) (wanted_some (by rfl) (by rfl) (by rfl)) (yld_nilCheck (by rfl)) (by rfl) (by decide) (by repeat (first | exact SelL.nil | exact SelL.self | apply SelL.cons | exact Sel.here | apply Sel.there | apply SelL.skip)) ?_
    refine WO.yld (by rfl) (wanted_some (by rfl) (by rfl) (by rfl)) (yld_fieldAddr (by rfl) (by exact Try.runUnderlying85) (by rfl) (by exact Try.sizeOf3) (by rfl) (by rfl)) (by rfl) (by decide) (by repeat (first | exact SelL.nil | exact SelL.self | apply SelL.cons | exact Sel.here | apply Sel.there | apply SelL.skip)) ?_
    refine WO.yld (by rfl) (wanted_some (by rfl) (by rfl) (by rfl)) (yld_load (by rfl) (by exact Try.isAgg3) (by repeat (first | exact .here | apply Sel.there)) (by rfl)) (by rfl) (by decide) (by repeat (first | exact SelL.nil | exact SelL.self | apply SelL.cons | exact Sel.here | apply Sel.there | apply SelL.skip)) ?_
    refine WO.yld (by rfl) (wanted_some (by rfl) (by rfl) (by rfl)) (yld_move (by rfl)) (by rfl) (by decide) (by repeat (first | exact SelL.nil | exact SelL.self | apply SelL.cons | exact Sel.here | apply Sel.there | apply SelL.skip)) ?_
    refine WO.yld (by rfl) (wanted_some (by rfl) (by rfl) (by rfl)) (yld_nilCheck (by rfl)) (by rfl) (by decide) (by repeat (first | exact SelL.nil | exact SelL.self | apply SelL.cons | exact Sel.here | apply Sel.there | apply SelL.skip)) ?_
    refine WO.yld (by rfl) (wanted_some (by rfl) (by rfl) (by rfl)) (yld_fieldAddr (by rfl) (by exact Try.runUnderlying85) (by rfl) (by exact Try.sizeOf42) (by rfl) (by rfl)) (by rfl) (by decide) (by repeat (first | exact SelL.nil | exact SelL.self | apply SelL.cons | exact Sel.here | apply Sel.there | apply SelL.skip)) ?_
    refine WO.yld (by rfl) (wanted_some (by rfl) (by rfl) (by rfl)) (yld_load (by rfl) (by exact Try.isAgg42) (by repeat (first | exact .here | apply Sel.there)) (by rfl)) (by rfl) (by decide) (by repeat (first | exact SelL.nil | exact SelL.self | apply SelL.cons | exact Sel.here | apply Sel.there | apply SelL.skip)) ?_
    refine WO.yld (by rfl) (wanted_some (by rfl) (by rfl) (by rfl)) (yld_len (by rfl) (by exact Try.runUnderlying42)) (by rfl) (by decide) (by repeat (first | exact SelL.nil | exact SelL.self | apply SelL.cons | exact Sel.here | apply Sel.there | apply SelL.skip)) ?_
    refine WO.yld (by rfl) (wanted_some (by rfl) (by rfl) (by rfl)) (yld_add (by rfl) (by rfl) (by first | exact w64 (by omega) (by omega) | rfl)) (by rfl) (by decide) (by repeat (first | exact SelL.nil | exact SelL.self | apply SelL.cons | exact Sel.here | apply Sel.there | apply SelL.skip)) ?_
    refine WO.yld (by rfl) (wanted_some (by rfl) (by rfl) (by rfl)) (yld_gtr (by rfl) (by rfl)) (by rfl) (by decide) (by repeat (first | exact SelL.nil | exact SelL.self | apply SelL.cons | exact Sel.here | apply Sel.there | apply SelL.skip)) ?_
    refine WO.yld (by rfl) (wanted_plain (by rfl)) (yld_pick_false (by rfl) (by rfl)) (by rfl) (by decide) (by repeat (first | exact SelL.nil | exact SelL.self | apply SelL.cons | exact Sel.here | apply Sel.there | apply SelL.skip)) ?_
    refine WO.yld (by rfl) (wanted_plain (by rfl)) (yld_move (by rfl)) (by rfl) (by decide) (by repeat (first | exact SelL.nil | exact SelL.self | apply SelL.cons | exact Sel.here | apply Sel.there | apply SelL.skip)) ?_
    refine WO.split (d := 29) (by rfl) (fun hc29 => ?_) (fun hc29 => ?_)
    · skip
      have hc29 := of_decide_eq_true hc29
      refine WO.skip (by rfl) (unwanted_some (by rfl) (by rfl) (by rfl) (by rfl)) (by rfl) (by decide) (by repeat (first | exact SelL.nil | exact SelL.self | apply SelL.cons | exact Sel.here | apply Sel.there | apply SelL.skip)) ?_
      refine WO.skip (by rfl) (unwanted_some (by rfl) (by rfl) (by rfl) (by rfl)) (by rfl) (by decide) (by repeat (first | exact SelL.nil | exact SelL.self | apply SelL.cons | exact Sel.here | apply Sel.there | apply SelL.skip)) ?_
      refine WO.skip (by rfl) (unwanted_some (by rfl) (by rfl) (by rfl) (by rfl)) (by rfl) (by decide) (by repeat (first | exact SelL.nil | exact SelL.self | apply SelL.cons | exact Sel.here | apply Sel.there | apply SelL.skip)) ?_
      refine WO.skip (by rfl) (unwanted_some (by rfl) (by rfl) (by rfl) (by rfl)) (by rfl) (by decide) (by repeat (first | exact SelL.nil | exact SelL.self | apply SelL.cons | exact Sel.here | apply Sel.there | apply SelL.skip)) ?_
      refine WO.skip (by rfl) (unwanted_some (by rfl) (by rfl) (by rfl) (by rfl)) (by rfl) (by decide) (by repeat (first | exact SelL.nil | exact SelL.self | apply SelL.cons | exact Sel.here | apply Sel.there | apply SelL.skip)) ?_
      refine WO.skip (by rfl) (unwanted_some (by rfl) (by rfl) (by rfl) (by rfl)) (by rfl) (by decide) (by repeat (first | exact SelL.nil | exact SelL.self | apply SelL.cons | exact Sel.here | apply Sel.there | apply SelL.skip)) ?_
      refine WO.skip (by rfl) (unwanted_some (by rfl) (by rfl) (by rfl) (by rfl)) (by rfl) (by decide) (by repeat (first | exact SelL.nil | exact SelL.self | apply SelL.cons | exact Sel.here | apply Sel.there | apply SelL.skip)) ?_
      refine WO.skip (by rfl) (unwanted_some (by rfl) (by rfl) (by rfl) (by rfl)) (by rfl) (by decide) (by repeat (first | exact SelL.nil | exact SelL.self | apply SelL.cons | exact Sel.here | apply Sel.there | apply SelL.skip)) ?_
      refine WO.yld (by rfl) (wanted_plain (by rfl)) (yld_pick_true (by rfl) (by rfl)) (by rfl) (by decide) (by repeat (first | exact SelL.nil | exact SelL.self | apply SelL.cons | exact Sel.here | apply Sel.there | apply SelL.skip)) ?_
      refine WO.done ?_
      refine WK.cond (by rfl) (fun _ => ?_) (fun h => by cases h)
      refine WK.seq ?_
      refine WK.region ?_
      refine WL.yld (wanted_plain (by rfl)) (yld_assign (by rfl)) (by rfl) (by decide) ?_
      refine WL.done ?_
      refine WK.ret ?_
      repeat (first | refine RQ.block ?_ | refine RQ.then_ ?_)
      refine RQ.body (results1 (by rfl) (by rfl)) (fun w s => ?_)
      have hm : inM e p = ([], e) := if_pos (.inr (.inl (by omega)))
      refine ⟨(none, 0, 0, []), by rw [hm]; rfl, rfl, ?_⟩
      rw [hm]
      refine Sat.endShut ⟨wad, wlen, wcap, wvs, mb, mm⟩ hmm ?_
      exact ((s.nilSl true 31 1).allNil (Rl := byt 5 false)).toCs (by repeat (first | exact SelL.nil | exact SelL.self | apply SelL.cons | exact Sel.here | apply Sel.there | apply SelL.skip))
    · skip
      have hc29 := of_decide_eq_false hc29
      refine WO.yld (by rfl) (wanted_some (by rfl) (by rfl) (by rfl)) (yld_fieldAddr (by rfl) (by exact Try.runUnderlying44) (by rfl) (by exact Try.sizeOf3) (by rfl) (by rfl)) (by rfl) (by decide) (by repeat (first | exact SelL.nil | exact SelL.self | apply SelL.cons | exact Sel.here | apply Sel.there | apply SelL.skip)) ?_
      refine WO.yld (by rfl) (wanted_some (by rfl) (by rfl) (by rfl)) (yld_load (by rfl) (by exact Try.isAgg3) (by repeat (first | exact .here | apply Sel.there)) (by rfl)) (by rfl) (by decide) (by repeat (first | exact SelL.nil | exact SelL.self | apply SelL.cons | exact Sel.here | apply Sel.there | apply SelL.skip)) ?_
      refine WO.yld (by rfl) (wanted_some (by rfl) (by rfl) (by rfl)) (yld_move (by rfl)) (by rfl) (by decide) (by repeat (first | exact SelL.nil | exact SelL.self | apply SelL.cons | exact Sel.here | apply Sel.there | apply SelL.skip)) ?_
      refine WO.yld (by rfl) (wanted_some (by rfl) (by rfl) (by rfl)) (yld_nilCheck (by rfl)) (by rfl) (by decide) (by repeat (first | exact SelL.nil | exact SelL.self | apply SelL.cons | exact Sel.here | apply Sel.there | apply SelL.skip)) ?_
      refine WO.yld (by rfl) (wanted_some (by rfl) (by rfl) (by rfl)) (yld_fieldAddr (by rfl) (by exact Try.runUnderlying85) (by rfl) (by exact Try.sizeOf3) (by rfl) (by rfl)) (by rfl) (by decide) (by repeat (first | exact SelL.nil | exact SelL.self | apply SelL.cons | exact Sel.here | apply Sel.there | apply SelL.skip)) ?_
      refine WO.yld (by rfl) (wanted_some (by rfl) (by rfl) (by rfl)) (yld_load (by rfl) (by exact Try.isAgg3) (by repeat (first | exact .here | apply Sel.there)) (by rfl)) (by rfl) (by decide) (by repeat (first | exact SelL.nil | exact SelL.self | apply SelL.cons | exact Sel.here | apply Sel.there | apply SelL.skip)) ?_
      refine WO.yld (by rfl) (wanted_some (by rfl) (by rfl) (by rfl)) (yld_add (by rfl) (by rfl) (by first | exact w64 (by omega) (by omega) | rfl)) (by rfl) (by decide) (by repeat (first | exact SelL.nil | exact SelL.self | apply SelL.cons | exact Sel.here | apply Sel.there | apply SelL.skip)) ?_
      refine WO.yld (by rfl) (wanted_some (by rfl) (by rfl) (by rfl)) (yld_gtr (by rfl) (by rfl)) (by rfl) (by decide) (by repeat (first | exact SelL.nil | exact SelL.self | apply SelL.cons | exact Sel.here | apply Sel.there | apply SelL.skip)) ?_
      refine WO.yld (by rfl) (wanted_plain (by rfl)) (yld_pick_false (by rfl) (by rfl)) (by rfl) (by decide) (by repeat (first | exact SelL.nil | exact SelL.self | apply SelL.cons | exact Sel.here | apply Sel.there | apply SelL.skip)) ?_
      refine WO.done ?_
      refine WK.cond (by rfl) (fun hc38 => ?_) (fun hc38 => ?_)
      · skip
        have hc38 := of_decide_eq_true hc38
        refine WK.seq ?_
        refine WK.region ?_
        refine WL.yld (wanted_plain (by rfl)) (yld_assign (by rfl)) (by rfl) (by decide) ?_
        refine WL.done ?_
        refine WK.ret ?_
        repeat (first | refine RQ.block ?_ | refine RQ.then_ ?_)
        refine RQ.body (results1 (by rfl) (by rfl)) (fun w s => ?_)
        have hm : inM e p = ([], e) := if_pos (.inr (.inr (by omega)))
        refine ⟨(none, 0, 0, []), by rw [hm]; rfl, rfl, ?_⟩
        rw [hm]
        refine Sat.endShut ⟨wad, wlen, wcap, wvs, mb, mm⟩ hmm ?_
        exact ((s.nilSl true 31 1).allNil (Rl := byt 5 false)).toCs (by repeat (first | exact SelL.nil | exact SelL.self | apply SelL.cons | exact Sel.here | apply Sel.there | apply SelL.skip))
      · skip
        have hc38 := of_decide_eq_false hc38
        refine WK.skip ?_
        refine WK.seq ?_
        refine WK.seq ?_
        refine WK.drawnQ (by kernel_rfl) [(0, 0), (1, 0), (2, 0), (3, 0), (4, 0), (5, 0), (6, 0), (7, 0)] (by kernel_rfl) (by kernel_rfl) (by kernel_rfl) ?_
        refine WO.yld (by rfl) (wanted_plain (by rfl)) (yld_fieldAddr (by rfl) (by exact Try.runUnderlying44) (by rfl) (by exact Try.sizeOf3) (by rfl) (by rfl)) (by rfl) (by decide) (by repeat (first | exact SelL.nil | exact SelL.self | apply SelL.cons | exact Sel.here | apply Sel.there | apply SelL.skip)) ?_
        refine WO.yld (by rfl) (wanted_plain (by rfl)) (yld_load (by rfl) (by exact Try.isAgg3) (by repeat (first | exact .here | apply Sel.there)) (by rfl)) (by rfl) (by decide) (by repeat (first | exact SelL.nil | exact SelL.self | apply SelL.cons | exact Sel.here | apply Sel.there | apply SelL.skip)) ?_
        refine WO.yld (by rfl) (wanted_plain (by rfl)) (yld_move (by rfl)) (by rfl) (by decide) (by repeat (first | exact SelL.nil | exact SelL.self | apply SelL.cons | exact Sel.here | apply Sel.there | apply SelL.skip)) ?_
        refine WO.yld (by rfl) (wanted_plain (by rfl)) (yld_nilCheck (by rfl)) (by rfl) (by decide) (by repeat (first | exact SelL.nil | exact SelL.self | apply SelL.cons | exact Sel.here | apply Sel.there | apply SelL.skip)) ?_
        refine WO.yld (by rfl) (wanted_plain (by rfl)) (yld_fieldAddr (by rfl) (by exact Try.runUnderlying85) (by rfl) (by exact Try.sizeOf3) (by rfl) (by rfl)) (by rfl) (by decide) (by repeat (first | exact SelL.nil | exact SelL.self | apply SelL.cons | exact Sel.here | apply Sel.there | apply SelL.skip)) ?_
        refine WO.yld (by rfl) (wanted_plain (by rfl)) (yld_load (by rfl) (by exact Try.isAgg3) (by repeat (first | exact .here | apply Sel.there)) (by rfl)) (by rfl) (by decide) (by repeat (first | exact SelL.nil | exact SelL.self | apply SelL.cons | exact Sel.here | apply Sel.there | apply SelL.skip)) ?_
        refine WO.yld (by rfl) (wanted_plain (by rfl)) (yld_sub (by rfl) (by rfl) (by first | exact w64 (by omega) (by omega) | rfl)) (by rfl) (by decide) (by repeat (first | exact SelL.nil | exact SelL.self | apply SelL.cons | exact Sel.here | apply Sel.there | apply SelL.skip)) ?_
        refine WO.yld (by rfl) (wanted_plain (by rfl)) (yld_assign (by rfl)) (by rfl) (by decide) (by repeat (first | exact SelL.nil | exact SelL.self | apply SelL.cons | exact Sel.here | apply Sel.there | apply SelL.skip)) ?_
        refine WO.done ?_
        refine WK.seq ?_
        refine WK.region ?_
        refine WL.yld (wanted_plain (by rfl)) (yld_move (by rfl)) (by rfl) (by decide) ?_
        refine WL.yld (wanted_plain (by rfl)) (yld_gtr (by rfl) (by rfl)) (by rfl) (by decide) ?_
        refine WL.done ?_
        refine WK.cut (ι := Option Addr × Nat × Nat × List Value) (fun r => True) (fun r => [(0, .pointer (some ⟨q, 0, none⟩)), (3, .pointer (some ⟨b3, 0, none⟩))]) (fun r => endL q (ackM e p.ack) ⟨r.1, r.2.1, r.2.2.1, r.2.2.2, mb, mm⟩ ++ (row true b3 44 [.int .i64 p.seq, .int .i64 p.ack, .slice pad p.b.length pcap] :: sl pp 5 1 pad p.b.length pcap (p.b.map bv) :: F)) ?_ ?_
        · skip
          rintro ⟨wad1, wlen1, wcap1, wvs1⟩ -
          obtain ⟨he1, he2, he3, he4⟩ := ackM_fix e p.ack
          have hin : inM e p = if p.seq = 0 then ([], ackM e p.ack) else ((deliver (holdM (ackM e p.ack) p).held.length (holdM (ackM e p.ack) p).delivered (holdM (ackM e p.ack) p).held).1, { holdM (ackM e p.ack) p with delivered := (deliver (holdM (ackM e p.ack) p).held.length (holdM (ackM e p.ack) p).delivered (holdM (ackM e p.ack) p).held).2.1, held := (deliver (holdM (ackM e p.ack) p).held.length (holdM (ackM e p.ack) p).delivered (holdM (ackM e p.ack) p).held).2.2 }) :=
            if_neg (by rw [hval]; intro h; rcases h with h | h | h; cases h; omega; omega)
          generalize ackM e p.ack = e1 at he1 he2 he3 he4 hin ⊢
          rw [← he2] at hmm hdel2 hheld
          rw [← he1] at hdel1 hdel2 hc38
          dsimp only [endL, List.cons_append, List.nil_append]
          refine WK.seq ?_
          refine WK.seq ?_
          refine WK.region ?_
          refine WL.yld (wanted_plain (by rfl)) (yld_fieldAddr (by rfl) (by exact Try.runUnderlying44) (by rfl) (by exact Try.sizeOf3) (by rfl) (by rfl)) (by rfl) (by decide) ?_
          refine WL.yld (wanted_plain (by rfl)) (yld_load (by rfl) (by exact Try.isAgg3) (by repeat (first | exact .here | apply Sel.there)) (by rfl)) (by rfl) (by decide) ?_
          refine WL.yld (wanted_plain (by rfl)) (yld_eql (by rfl) (by rfl)) (by rfl) (by decide) ?_
          refine WL.done ?_
          refine WK.cond (by rfl) (fun hc64 => ?_) (fun hc64 => ?_)
          · skip
            have hc64 := of_decide_eq_true hc64
            refine WK.seq ?_
            refine WK.region ?_
            refine WL.yld (wanted_plain (by rfl)) (yld_assign (by rfl)) (by rfl) (by decide) ?_
            refine WL.done ?_
            refine WK.ret ?_
            repeat (first | refine RQ.block ?_ | refine RQ.then_ ?_)
            refine RQ.body (results1 (by rfl) (by rfl)) (fun w s => ?_)
            have hm : inM e p = ([], e1) := by rw [hin, if_pos hc64]
            refine ⟨(none, 0, 0, []), by rw [hm]; rfl, rfl, ?_⟩
            rw [hm]
            refine Sat.endShut ⟨wad1, wlen1, wcap1, wvs1, mb, mm⟩ hmm ?_
            exact ((s.nilSl true 31 1).allNil (Rl := byt 5 false)).toCs (by repeat (first | exact SelL.nil | exact SelL.self | apply SelL.cons | exact Sel.here | apply Sel.there | apply SelL.skip))
          · skip
            have hc64 := of_decide_eq_false hc64
            refine WK.skip ?_
            refine WK.seq ?_
            refine WK.region ?_
            refine WL.yld (wanted_plain (by rfl)) (yld_move (by rfl)) (by rfl) (by decide) ?_
            refine WL.yld (wanted_plain (by rfl)) (yld_nilCheck (by rfl)) (by rfl) (by decide) ?_
            refine WL.yld (wanted_plain (by rfl)) (yld_fieldAddr (by rfl) (by exact Try.runUnderlying85) (by rfl) (by exact Try.sizeOf4) (by rfl) (by rfl)) (by rfl) (by decide) ?_
            refine WL.eff0 (wanted_plain (by rfl)) (eff_store (by rfl) (by rfl) (by exact Try.sizeOf4) (by rfl) (by rfl) (by rfl) (by repeat (first | exact .here | apply Sel.there)) (by repeat (first | exact SetAts.nil | apply SetAts.cons | exact SetAt.here | apply SetAt.there))) (by rfl) ?_
            rintro _ -
            try dsimp only
            refine WL.done ?_
            refine WK.seq ?_
            refine WK.seq ?_
            refine WK.drawnQ (by kernel_rfl) [(0, 0), (1, 0), (2, 0), (3, 0), (4, 0), (5, 0), (6, 0), (7, 0), (8, 0), (9, 0), (10, 0), (11, 0)] (by kernel_rfl) (by kernel_rfl) (by kernel_rfl) ?_
            refine WO.yld (by rfl) (wanted_plain (by rfl)) (yld_move (by rfl)) (by rfl) (by decide) (by repeat (first | exact SelL.nil | exact SelL.self | apply SelL.cons | exact Sel.here | apply Sel.there | apply SelL.skip)) ?_
            refine WO.yld (by rfl) (wanted_plain (by rfl)) (yld_nilCheck (by rfl)) (by rfl) (by decide) (by repeat (first | exact SelL.nil | exact SelL.self | apply SelL.cons | exact Sel.here | apply Sel.there | apply SelL.skip)) ?_
            refine WO.yld (by rfl) (wanted_plain (by rfl)) (yld_fieldAddr (by rfl) (by exact Try.runUnderlying85) (by rfl) (by exact Try.sizeOf83) (by rfl) (by rfl)) (by rfl) (by decide) (by repeat (first | exact SelL.nil | exact SelL.self | apply SelL.cons | exact Sel.here | apply Sel.there | apply SelL.skip)) ?_
            refine WO.yld (by rfl) (wanted_plain (by rfl)) (yld_load (by rfl) (by exact Try.isAgg83) (by repeat (first | exact .here | apply Sel.there)) (by rfl)) (by rfl) (by decide) (by repeat (first | exact SelL.nil | exact SelL.self | apply SelL.cons | exact Sel.here | apply Sel.there | apply SelL.skip)) ?_
            refine WO.yld (by rfl) (wanted_plain (by rfl)) (yld_fieldAddr (by rfl) (by exact Try.runUnderlying44) (by rfl) (by exact Try.sizeOf3) (by rfl) (by rfl)) (by rfl) (by decide) (by repeat (first | exact SelL.nil | exact SelL.self | apply SelL.cons | exact Sel.here | apply Sel.there | apply SelL.skip)) ?_
            refine WO.yld (by rfl) (wanted_plain (by rfl)) (yld_load (by rfl) (by exact Try.isAgg3) (by repeat (first | exact .here | apply Sel.there)) (by rfl)) (by rfl) (by decide) (by repeat (first | exact SelL.nil | exact SelL.self | apply SelL.cons | exact Sel.here | apply Sel.there | apply SelL.skip)) ?_
            refine WO.yld (by rfl) (wanted_plain (by rfl)) (yld_lookup (by rfl) (by rfl) (by exact Try.runUnderlying83) (by exact Try.runUnderlying3) (by exact Try.zeroValue31) (by repeat (first | exact .here | apply Sel.there))) (by rfl) (by decide) (by repeat (first | exact SelL.nil | exact SelL.self | apply SelL.cons | exact Sel.here | apply Sel.there | apply SelL.skip)) ?_
            refine WO.yld (by rfl) (wanted_plain (by rfl)) (yld_move (by rfl)) (by rfl) (by decide) (by repeat (first | exact SelL.nil | exact SelL.self | apply SelL.cons | exact Sel.here | apply Sel.there | apply SelL.skip)) ?_
            refine WO.yld (by rfl) (wanted_plain (by rfl)) (yld_extract (by rfl) (by rfl)) (by rfl) (by decide) (by repeat (first | exact SelL.nil | exact SelL.self | apply SelL.cons | exact Sel.here | apply Sel.there | apply SelL.skip)) ?_
            refine WO.yld (by rfl) (wanted_plain (by rfl)) (yld_extract (by rfl) (by rfl)) (by rfl) (by decide) (by repeat (first | exact SelL.nil | exact SelL.self | apply SelL.cons | exact Sel.here | apply Sel.there | apply SelL.skip)) ?_
            refine WO.yld (by rfl) (wanted_plain (by rfl)) (yld_assign (by rfl)) (by rfl) (by decide) (by repeat (first | exact SelL.nil | exact SelL.self | apply SelL.cons | exact Sel.here | apply Sel.there | apply SelL.skip)) ?_
            refine WO.yld (by rfl) (wanted_plain (by rfl)) (yld_assign (by rfl)) (by rfl) (by decide) (by repeat (first | exact SelL.nil | exact SelL.self | apply SelL.cons | exact Sel.here | apply Sel.there | apply SelL.skip)) ?_
            refine WO.done ?_
            refine WK.seq ?_
            refine WK.cut2 (ι := List (Int × Value)) (fun r => r.map (·.1) = (holdM e1 p).held.map (·.1)) (fun r => [(0, .pointer (some ⟨q, 0, none⟩))]) (fun r => endL q (holdM e1 p) ⟨wad1, wlen1, wcap1, wvs1, mb, r⟩ ++ (sl pp 5 1 pad p.b.length pcap (p.b.map bv) :: F)) ?_ ?_
            · skip
              rintro mm1 hmm1
              have hlen3 := holdM_len e1 p
              obtain ⟨hh1, hh2, hh3, hh4, hh5⟩ := holdM_fix e1 p
              dsimp only [endL, List.cons_append, List.nil_append]
              refine WK.seq ?_
              refine WK.region ?_
              refine WL.yld (wanted_plain (by rfl)) (yld_assign (by rfl)) (by rfl) (by decide) ?_
              refine WL.done ?_
              refine WK.sat (fun w s => ((s.nilSl true 31 1).allNil (Rl := byt 5 false))) ?_
              refine WK.block ?_
              rw [hh5]
              refine WK.loop (ι := Int × List (Int × List UInt8) × List (Int × Value) × Option Addr × Nat × Nat × List Value × List (List UInt8)) (fun (d, h, mm2, _, olen, _, _, outs) => mm2.map (·.1) = h.map (·.1) ∧ olen = outs.length ∧ (holdM e1 p).delivered ≤ d ∧ d + h.length = (holdM e1 p).delivered + (holdM e1 p).held.length ∧
      outs ++ (deliver h.length d h).1 = (deliver (holdM e1 p).held.length (holdM e1 p).delivered (holdM e1 p).held).1 ∧ (deliver h.length d h).2 = (deliver (holdM e1 p).held.length (holdM e1 p).delivered (holdM e1 p).held).2) (fun (_, _, _, oad, olen, ocap, _, _) => [(0, .pointer (some ⟨q, 0, none⟩)), (8, .slice oad olen ocap)]) (fun (d, h, mm2, oad, olen, ocap, vs, outs) => allR (byt 5 false) vs outs :: sl true 31 1 oad olen ocap vs :: (endL q { holdM e1 p with delivered := d, held := h, owing := true } ⟨wad1, wlen1, wcap1, wvs1, mb, mm2⟩ ++ (sl pp 5 1 pad p.b.length pcap (p.b.map bv) :: F))) (fun (_, h, _, _, _, _, _, _) => h.length) (((holdM e1 p).delivered, (holdM e1 p).held, mm1, none, 0, 0, [], [])) (⟨hmm1, rfl, Int.le_refl _, rfl, rfl, rfl⟩) (by repeat (first | exact KK.nil | refine KK.cons (by first | rfl | (simp; done)) ?_)) (by (try dsimp only [endL, List.cons_append, List.nil_append]); exact (by repeat (first | exact SelL.nil | exact SelL.self | apply SelL.cons | exact Sel.here | apply Sel.there | apply SelL.skip))) ?_
              rintro ⟨d, h, mm2, oad, olen, ocap, vs, outs⟩ ⟨hk1, hk2, hk3, hk4, hk5, hk6⟩ N hN2
              dsimp only [endL, List.cons_append, List.nil_append] at hk1 hk2 hk3 hk4 hk5 hk6 ⊢
              have hol : outs.length ≤ (holdM e1 p).held.length := by
                have h1 := congrArg List.length hk5
                have h2 := deliver_len (holdM e1 p).held.length (holdM e1 p).delivered (holdM e1 p).held
                simp only [List.length_append] at h1
                omega
              refine WK.block ?_
              refine WK.seq ?_
              refine WK.drawnQ (by kernel_rfl) [(0, 0), (1, 0), (2, 0), (3, 0), (4, 0), (5, 0), (6, 0), (7, 0), (8, 0), (9, 0), (10, 0), (11, 0), (12, 0), (13, 0), (14, 0)] (by kernel_rfl) (by kernel_rfl) (by kernel_rfl) ?_
              refine WO.yld (by rfl) (wanted_plain (by rfl)) (yld_move (by rfl)) (by rfl) (by decide) (by repeat (first | exact SelL.nil | exact SelL.self | apply SelL.cons | exact Sel.here | apply Sel.there | apply SelL.skip)) ?_
              refine WO.yld (by rfl) (wanted_plain (by rfl)) (yld_nilCheck (by rfl)) (by rfl) (by decide) (by repeat (first | exact SelL.nil | exact SelL.self | apply SelL.cons | exact Sel.here | apply Sel.there | apply SelL.skip)) ?_
              refine WO.yld (by rfl) (wanted_plain (by rfl)) (yld_fieldAddr (by rfl) (by exact Try.runUnderlying85) (by rfl) (by exact Try.sizeOf83) (by rfl) (by rfl)) (by rfl) (by decide) (by repeat (first | exact SelL.nil | exact SelL.self | apply SelL.cons | exact Sel.here | apply Sel.there | apply SelL.skip)) ?_
              refine WO.yld (by rfl) (wanted_plain (by rfl)) (yld_load (by rfl) (by exact Try.isAgg83) (by repeat (first | exact .here | apply Sel.there)) (by rfl)) (by rfl) (by decide) (by repeat (first | exact SelL.nil | exact SelL.self | apply SelL.cons | exact Sel.here | apply Sel.there | apply SelL.skip)) ?_
              refine WO.yld (by rfl) (wanted_plain (by rfl)) (yld_move (by rfl)) (by rfl) (by decide) (by repeat (first | exact SelL.nil | exact SelL.self | apply SelL.cons | exact Sel.here | apply Sel.there | apply SelL.skip)) ?_
              refine WO.yld (by rfl) (wanted_plain (by rfl)) (yld_nilCheck (by rfl)) (by rfl) (by decide) (by repeat (first | exact SelL.nil | exact SelL.self | apply SelL.cons | exact Sel.here | apply Sel.there | apply SelL.skip)) ?_
              refine WO.yld (by rfl) (wanted_plain (by rfl)) (yld_fieldAddr (by rfl) (by exact Try.runUnderlying85) (by rfl) (by exact Try.sizeOf3) (by rfl) (by rfl)) (by rfl) (by decide) (by repeat (first | exact SelL.nil | exact SelL.self | apply SelL.cons | exact Sel.here | apply Sel.there | apply SelL.skip)) ?_
              refine WO.yld (by rfl) (wanted_plain (by rfl)) (yld_load (by rfl) (by exact Try.isAgg3) (by repeat (first | exact .here | apply Sel.there)) (by rfl)) (by rfl) (by decide) (by repeat (first | exact SelL.nil | exact SelL.self | apply SelL.cons | exact Sel.here | apply Sel.there | apply SelL.skip)) ?_
              refine WO.yld (by rfl) (wanted_plain (by rfl)) (yld_add (by rfl) (by rfl) (by first | exact w64 (by omega) (by omega) | rfl)) (by rfl) (by decide) (by repeat (first | exact SelL.nil | exact SelL.self | apply SelL.cons | exact Sel.here | apply Sel.there | apply SelL.skip)) ?_
              rcases hg2 : mget h (d + 1) with _ | b2
              · skip
                have hg1 := (mget_keys hk1).1.2 hg2
                refine WO.yld (by rfl) (wanted_plain (by rfl)) (yld_lookup_none (by rfl) (by rfl) (by exact Try.runUnderlying83) (by exact Try.runUnderlying3) (by exact Try.zeroValue31) (by repeat (first | exact .here | apply Sel.there)) hg1) (by rfl) (by decide) (by repeat (first | exact SelL.nil | exact SelL.self | apply SelL.cons | exact Sel.here | apply Sel.there | apply SelL.skip)) ?_
                refine WO.yld (by rfl) (wanted_plain (by rfl)) (yld_move (by rfl)) (by rfl) (by decide) (by repeat (first | exact SelL.nil | exact SelL.self | apply SelL.cons | exact Sel.here | apply Sel.there | apply SelL.skip)) ?_
                refine WO.yld (by rfl) (wanted_plain (by rfl)) (yld_extract (by rfl) (by rfl)) (by rfl) (by decide) (by repeat (first | exact SelL.nil | exact SelL.self | apply SelL.cons | exact Sel.here | apply Sel.there | apply SelL.skip)) ?_
                refine WO.yld (by rfl) (wanted_plain (by rfl)) (yld_extract (by rfl) (by rfl)) (by rfl) (by decide) (by repeat (first | exact SelL.nil | exact SelL.self | apply SelL.cons | exact Sel.here | apply Sel.there | apply SelL.skip)) ?_
                refine WO.yld (by rfl) (wanted_plain (by rfl)) (yld_assign (by rfl)) (by rfl) (by decide) (by repeat (first | exact SelL.nil | exact SelL.self | apply SelL.cons | exact Sel.here | apply Sel.there | apply SelL.skip)) ?_
                refine WO.yld (by rfl) (wanted_plain (by rfl)) (yld_assign (by rfl)) (by rfl) (by decide) (by repeat (first | exact SelL.nil | exact SelL.self | apply SelL.cons | exact Sel.here | apply Sel.there | apply SelL.skip)) ?_
                refine WO.done ?_
                refine WK.seq ?_
                refine WK.seq ?_
                refine WK.region ?_
                refine WL.yld (wanted_plain (by rfl)) (yld_move (by rfl)) (by rfl) (by decide) ?_
                refine WL.yld (wanted_plain (by rfl)) (yld_not (by rfl)) (by rfl) (by decide) ?_
                refine WL.done ?_
                refine WK.cond (by rfl) (fun _ => ?_) (fun h => by cases h)
                refine WK.seq ?_
                refine WK.region ?_
                refine WL.yld (wanted_plain (by rfl)) (yld_move (by rfl)) (by rfl) (by decide) ?_
                refine WL.yld (wanted_plain (by rfl)) (yld_assign (by rfl)) (by rfl) (by decide) ?_
                refine WL.done ?_
                refine WK.ret ?_
                repeat (first | refine RQ.block ?_ | refine RQ.then_ ?_)
                refine RQ.body (results1 (by rfl) (by rfl)) (fun w s => ?_)
                have hd := deliver_none hg2 h.length
                have hm : inM e p = (outs, { holdM e1 p with delivered := d, held := h }) := by
                  rw [hin, if_neg hc64]
                  rw [hd] at hk5 hk6
                  simp only [List.append_nil] at hk5
                  rw [← hk5, ← hk6]
                refine ⟨(oad, olen, ocap, vs), by rw [hm]; exact hk2, rfl, ?_⟩
                rw [hm]
                refine Sat.endShut ⟨wad1, wlen1, wcap1, wvs1, mb, mm2⟩ hk1 ?_
                dsimp only [endL, List.cons_append, List.nil_append]
                rw [hh5]
                exact s.toCs (by repeat (first | exact SelL.nil | exact SelL.self | apply SelL.cons | exact Sel.here | apply Sel.there | apply SelL.skip))
              · skip
                obtain ⟨i2, v2, hg1, hg3, hg4, hg5, hg6, hg7⟩ := (mget_keys hk1).2 b2 hg2
                refine WO.openS (fun w s => Sat.allByt hg4 (s.sel1 (A := allR (byt 5 false) (mm2.map (·.2)) (h.map (·.2))) (by repeat (first | exact .here | apply Sel.there)))) ?_
                rintro ⟨ad9, len9, cap9⟩ ⟨hv9, hl9⟩
                rw [hg3] at hv9
                cases hv9
                try dsimp only [List.cons_append, List.nil_append]
                refine WO.yld (by rfl) (wanted_plain (by rfl)) (yld_lookup_some (by rfl) (by rfl) (by exact Try.runUnderlying83) (by exact Try.runUnderlying3) (by repeat (first | exact .here | apply Sel.there)) hg1) (by rfl) (by decide) (by repeat (first | exact SelL.nil | exact SelL.self | apply SelL.cons | exact Sel.here | apply Sel.there | apply SelL.skip)) ?_
                refine WO.yld (by rfl) (wanted_plain (by rfl)) (yld_move (by rfl)) (by rfl) (by decide) (by repeat (first | exact SelL.nil | exact SelL.self | apply SelL.cons | exact Sel.here | apply Sel.there | apply SelL.skip)) ?_
                refine WO.yld (by rfl) (wanted_plain (by rfl)) (yld_extract (by rfl) (by rfl)) (by rfl) (by decide) (by repeat (first | exact SelL.nil | exact SelL.self | apply SelL.cons | exact Sel.here | apply Sel.there | apply SelL.skip)) ?_
                refine WO.yld (by rfl) (wanted_plain (by rfl)) (yld_extract (by rfl) (by rfl)) (by rfl) (by decide) (by repeat (first | exact SelL.nil | exact SelL.self | apply SelL.cons | exact Sel.here | apply Sel.there | apply SelL.skip)) ?_
                refine WO.yld (by rfl) (wanted_plain (by rfl)) (yld_assign (by rfl)) (by rfl) (by decide) (by repeat (first | exact SelL.nil | exact SelL.self | apply SelL.cons | exact Sel.here | apply Sel.there | apply SelL.skip)) ?_
                refine WO.yld (by rfl) (wanted_plain (by rfl)) (yld_assign (by rfl)) (by rfl) (by decide) (by repeat (first | exact SelL.nil | exact SelL.self | apply SelL.cons | exact Sel.here | apply Sel.there | apply SelL.skip)) ?_
                refine WO.done ?_
                refine WK.seq ?_
                refine WK.seq ?_
                refine WK.region ?_
                refine WL.yld (wanted_plain (by rfl)) (yld_move (by rfl)) (by rfl) (by decide) ?_
                refine WL.yld (wanted_plain (by rfl)) (yld_not (by rfl)) (by rfl) (by decide) ?_
                refine WL.done ?_
                refine WK.cond (by rfl) (fun h => by cases h) (fun _ => ?_)
                refine WK.skip ?_
                refine WK.seq ?_
                refine WK.region ?_
                refine WL.yld (wanted_plain (by rfl)) (yld_move (by rfl)) (by rfl) (by decide) ?_
                refine WL.yld (wanted_plain (by rfl)) (yld_nilCheck (by rfl)) (by rfl) (by decide) ?_
                refine WL.yld (wanted_plain (by rfl)) (yld_fieldAddr (by rfl) (by exact Try.runUnderlying85) (by rfl) (by exact Try.sizeOf3) (by rfl) (by rfl)) (by rfl) (by decide) ?_
                refine WL.yld (wanted_plain (by rfl)) (yld_load (by rfl) (by exact Try.isAgg3) (by repeat (first | exact .here | apply Sel.there)) (by rfl)) (by rfl) (by decide) ?_
                refine WL.yld (wanted_plain (by rfl)) (yld_add (by rfl) (by rfl) (by first | exact w64 (by omega) (by omega) | rfl)) (by rfl) (by decide) ?_
                refine WL.yld (wanted_plain (by rfl)) (yld_nilCheck (by rfl)) (by rfl) (by decide) ?_
                refine WL.yld (wanted_plain (by rfl)) (yld_fieldAddr (by rfl) (by exact Try.runUnderlying85) (by rfl) (by exact Try.sizeOf3) (by rfl) (by rfl)) (by rfl) (by decide) ?_
                refine WL.eff0 (wanted_plain (by rfl)) (eff_store (by rfl) (by rfl) (by exact Try.sizeOf3) (by rfl) (by rfl) (by rfl) (by repeat (first | exact .here | apply Sel.there)) (by repeat (first | exact SetAts.nil | apply SetAts.cons | exact SetAt.here | apply SetAt.there))) (by rfl) ?_
                rintro _ -
                try dsimp only
                refine WL.done ?_
                refine WK.seq ?_
                refine WK.drawn (by kernel_rfl) [(0, 0), (1, 0), (2, 0), (3, 0), (4, 0), (5, 0), (6, 0), (7, 0), (8, 2)] [row true q 85 [.int .i64 (holdM e1 p).window, .slice wad1 wlen1 wcap1, .int .i64 (holdM e1 p).acked, .int .i64 (d + 1), .map (some mb), .bool true]] (by kernel_rfl) (by kernel_rfl) (by kernel_rfl) ?_
                refine WO.yld (by rfl) (wanted_plain (by rfl)) (yld_move (by rfl)) (by rfl) (by decide) (by repeat (first | exact SelL.nil | exact SelL.self | apply SelL.cons | exact Sel.here | apply Sel.there | apply SelL.skip)) ?_
                refine WO.yld (by rfl) (wanted_plain (by rfl)) (yld_nilCheck (by rfl)) (by rfl) (by decide) (by repeat (first | exact SelL.nil | exact SelL.self | apply SelL.cons | exact Sel.here | apply Sel.there | apply SelL.skip)) ?_
                refine WO.yld (by rfl) (wanted_plain (by rfl)) (yld_fieldAddr (by rfl) (by exact Try.runUnderlying85) (by rfl) (by exact Try.sizeOf83) (by rfl) (by rfl)) (by rfl) (by decide) (by repeat (first | exact SelL.nil | exact SelL.self | apply SelL.cons | exact Sel.here | apply Sel.there | apply SelL.skip)) ?_
                refine WO.yld (by rfl) (wanted_plain (by rfl)) (yld_load (by rfl) (by exact Try.isAgg83) (by repeat (first | exact .here | apply Sel.there)) (by rfl)) (by rfl) (by decide) (by repeat (first | exact SelL.nil | exact SelL.self | apply SelL.cons | exact Sel.here | apply Sel.there | apply SelL.skip)) ?_
                refine WO.yld (by rfl) (wanted_plain (by rfl)) (yld_move (by rfl)) (by rfl) (by decide) (by repeat (first | exact SelL.nil | exact SelL.self | apply SelL.cons | exact Sel.here | apply Sel.there | apply SelL.skip)) ?_
                refine WO.yld (by rfl) (wanted_plain (by rfl)) (yld_nilCheck (by rfl)) (by rfl) (by decide) (by repeat (first | exact SelL.nil | exact SelL.self | apply SelL.cons | exact Sel.here | apply Sel.there | apply SelL.skip)) ?_
                refine WO.yld (by rfl) (wanted_plain (by rfl)) (yld_fieldAddr (by rfl) (by exact Try.runUnderlying85) (by rfl) (by exact Try.sizeOf3) (by rfl) (by rfl)) (by rfl) (by decide) (by repeat (first | exact SelL.nil | exact SelL.self | apply SelL.cons | exact Sel.here | apply Sel.there | apply SelL.skip)) ?_
                refine WO.yld (by rfl) (wanted_plain (by rfl)) (yld_load (by rfl) (by exact Try.isAgg3) (by repeat (first | exact .here | apply Sel.there)) (by rfl)) (by rfl) (by decide) (by repeat (first | exact SelL.nil | exact SelL.self | apply SelL.cons | exact Sel.here | apply Sel.there | apply SelL.skip)) ?_
                refine WO.brk0 (by rfl) (wanted_plain (by rfl)) (eff_delete (by rfl) (by rfl) (by rfl) (by exact Try.runUnderlying83) (by exact Try.runUnderlying3) (by repeat (first | exact .here | apply Sel.there))) (by rfl) ?_
                rintro _ -
                try dsimp only
                refine WO.done ?_
                refine WK.region ?_
                refine WL.yld (wanted_plain (by rfl)) (yld_move (by rfl)) (by rfl) (by decide) ?_
                refine WL.yld (wanted_plain (by rfl)) (yld_move (by rfl)) (by rfl) (by decide) ?_
                refine WL.eff (wanted_plain (by rfl)) (eff_mkSlice1 (by rfl) (by rfl) (by exact Try.runUnderlying42) (by exact Try.sizeOf31) (by exact Try.zeroValue31) (by rfl) (by rfl) (by decide) (by rfl)) (by rfl) (by decide) ?_
                rintro b131 -
                try dsimp only
                refine WL.eff (wanted_plain (by rfl)) (eff_append (by rfl) (by rfl) (by exact elem42) (by exact Try.underlying42) (by repeat (first | exact SelL.nil | exact SelL.self | apply SelL.cons | exact Sel.here | apply Sel.there | apply SelL.skip)) (by omega) (by omega)) (by rfl) (by decide) ?_
                rintro ⟨ad132, cap132⟩ -
                try dsimp only
                refine WL.yld (wanted_plain (by rfl)) (yld_assign (by rfl)) (by rfl) (by decide) ?_
                refine WL.done ?_
                refine WK.endBlock ?_
                have hds := deliver_some hg2
                have hml := mdel_length hg2
                refine WK.sat (fun w s => Sat.allSnoc ((s.sel1 (A := sl false 5 1 ad9 len9 cap9 (b2.map bv)) (by repeat (first | exact .here | apply Sel.there))).bytShut.sel (As := [allR (byt 5 false) vs outs, byt 5 false (.slice ad9 len9 cap9) b2]) (by repeat (first | exact SelL.nil | exact SelL.self | apply SelL.cons | exact Sel.here | apply Sel.there | apply SelL.skip)))) ?_
                refine WK.sat (fun w s => Sat.allErase i2 (s.sel1 (A := allR (byt 5 false) (mm2.map (·.2)) (h.map (·.2))) (by repeat (first | exact .here | apply Sel.there)))) ?_
                rw [← hg5, ← hg6]
                exact fun a w ka s => hN2 (d + 1, mdel h (d + 1), mdel mm2 (d + 1), ad132, olen + 1, cap132, vs ++ [.slice ad9 len9 cap9], outs ++ [b2]) ⟨hg7, by simp [hk2], by omega, by omega, by rw [← hk5, hds]; simp, by rw [← hk6, hds]⟩ (by (try dsimp only); omega) a w (ka.keep (by repeat (first | exact KK.nil | refine KK.cons (by first | rfl | (simp; done)) ?_))) (s.toCs (by (try dsimp only [endL, List.cons_append, List.nil_append]); exact (by repeat (first | exact SelL.nil | exact SelL.self | apply SelL.cons | exact Sel.here | apply Sel.there | apply SelL.skip))))
            · intro J11
              refine WK.drawnQ (by kernel_rfl) [(0, 0), (1, 0), (2, 0), (3, 0), (4, 0), (5, 0), (6, 0), (7, 0), (8, 0), (9, 0), (10, 0)] (by kernel_rfl) (by kernel_rfl) (by kernel_rfl) ?_
              refine WO.yld (by rfl) (wanted_plain (by rfl)) (yld_fieldAddr (by rfl) (by exact Try.runUnderlying44) (by rfl) (by exact Try.sizeOf3) (by rfl) (by rfl)) (by rfl) (by decide) (by repeat (first | exact SelL.nil | exact SelL.self | apply SelL.cons | exact Sel.here | apply Sel.there | apply SelL.skip)) ?_
              refine WO.yld (by rfl) (wanted_plain (by rfl)) (yld_load (by rfl) (by exact Try.isAgg3) (by repeat (first | exact .here | apply Sel.there)) (by rfl)) (by rfl) (by decide) (by repeat (first | exact SelL.nil | exact SelL.self | apply SelL.cons | exact Sel.here | apply Sel.there | apply SelL.skip)) ?_
              refine WO.yld (by rfl) (wanted_plain (by rfl)) (yld_move (by rfl)) (by rfl) (by decide) (by repeat (first | exact SelL.nil | exact SelL.self | apply SelL.cons | exact Sel.here | apply Sel.there | apply SelL.skip)) ?_
              refine WO.yld (by rfl) (wanted_plain (by rfl)) (yld_nilCheck (by rfl)) (by rfl) (by decide) (by repeat (first | exact SelL.nil | exact SelL.self | apply SelL.cons | exact Sel.here | apply Sel.there | apply SelL.skip)) ?_
              refine WO.yld (by rfl) (wanted_plain (by rfl)) (yld_fieldAddr (by rfl) (by exact Try.runUnderlying85) (by rfl) (by exact Try.sizeOf3) (by rfl) (by rfl)) (by rfl) (by decide) (by repeat (first | exact SelL.nil | exact SelL.self | apply SelL.cons | exact Sel.here | apply Sel.there | apply SelL.skip)) ?_
              refine WO.yld (by rfl) (wanted_plain (by rfl)) (yld_load (by rfl) (by exact Try.isAgg3) (by repeat (first | exact .here | apply Sel.there)) (by rfl)) (by rfl) (by decide) (by repeat (first | exact SelL.nil | exact SelL.self | apply SelL.cons | exact Sel.here | apply Sel.there | apply SelL.skip)) ?_
              refine WO.yld (by rfl) (wanted_plain (by rfl)) (yld_gtr (by rfl) (by rfl)) (by rfl) (by decide) (by repeat (first | exact SelL.nil | exact SelL.self | apply SelL.cons | exact Sel.here | apply Sel.there | apply SelL.skip)) ?_
              refine WO.yld (by rfl) (wanted_plain (by rfl)) (yld_move (by rfl)) (by rfl) (by decide) (by repeat (first | exact SelL.nil | exact SelL.self | apply SelL.cons | exact Sel.here | apply Sel.there | apply SelL.skip)) ?_
              refine WO.split (d := 85) (by rfl) (fun hc85 => ?_) (fun hc85 => ?_)
              · skip
                have hc85 := of_decide_eq_true hc85
                refine WO.yld (by rfl) (wanted_some (by rfl) (by rfl) (by rfl)) (yld_move (by rfl)) (by rfl) (by decide) (by repeat (first | exact SelL.nil | exact SelL.self | apply SelL.cons | exact Sel.here | apply Sel.there | apply SelL.skip)) ?_
                refine WO.yld (by rfl) (wanted_some (by rfl) (by rfl) (by rfl)) (yld_not (by rfl)) (by rfl) (by decide) (by repeat (first | exact SelL.nil | exact SelL.self | apply SelL.cons | exact Sel.here | apply Sel.there | apply SelL.skip)) ?_
                refine WO.yld (by rfl) (wanted_plain (by rfl)) (yld_pick_true (by rfl) (by rfl)) (by rfl) (by decide) (by repeat (first | exact SelL.nil | exact SelL.self | apply SelL.cons | exact Sel.here | apply Sel.there | apply SelL.skip)) ?_
                refine WO.done ?_
                refine WK.cond (by rfl) (fun hc88 => ?_) (fun hc88 => ?_)
                · skip
                  refine WK.drawn (by kernel_rfl) [(0, 0), (1, 0), (2, 0), (3, 0), (4, 0), (5, 0), (6, 0), (7, 0), (8, 1), (9, 2)] [row true q 85 [.int .i64 e1.window, .slice wad1 wlen1 wcap1, .int .i64 e1.acked, .int .i64 e1.delivered, .map (some mb), .bool true], row true b3 44 [.int .i64 p.seq, .int .i64 p.ack, .slice pad p.b.length pcap]] (by kernel_rfl) (by kernel_rfl) (by kernel_rfl) ?_
                  refine WO.yld (by rfl) (wanted_plain (by rfl)) (yld_move (by rfl)) (by rfl) (by decide) (by repeat (first | exact SelL.nil | exact SelL.self | apply SelL.cons | exact Sel.here | apply Sel.there | apply SelL.skip)) ?_
                  refine WO.yld (by rfl) (wanted_plain (by rfl)) (yld_nilCheck (by rfl)) (by rfl) (by decide) (by repeat (first | exact SelL.nil | exact SelL.self | apply SelL.cons | exact Sel.here | apply Sel.there | apply SelL.skip)) ?_
                  refine WO.yld (by rfl) (wanted_plain (by rfl)) (yld_fieldAddr (by rfl) (by exact Try.runUnderlying85) (by rfl) (by exact Try.sizeOf83) (by rfl) (by rfl)) (by rfl) (by decide) (by repeat (first | exact SelL.nil | exact SelL.self | apply SelL.cons | exact Sel.here | apply Sel.there | apply SelL.skip)) ?_
                  refine WO.yld (by rfl) (wanted_plain (by rfl)) (yld_load (by rfl) (by exact Try.isAgg83) (by repeat (first | exact .here | apply Sel.there)) (by rfl)) (by rfl) (by decide) (by repeat (first | exact SelL.nil | exact SelL.self | apply SelL.cons | exact Sel.here | apply Sel.there | apply SelL.skip)) ?_
                  refine WO.yld (by rfl) (wanted_plain (by rfl)) (yld_fieldAddr (by rfl) (by exact Try.runUnderlying44) (by rfl) (by exact Try.sizeOf3) (by rfl) (by rfl)) (by rfl) (by decide) (by repeat (first | exact SelL.nil | exact SelL.self | apply SelL.cons | exact Sel.here | apply Sel.there | apply SelL.skip)) ?_
                  refine WO.yld (by rfl) (wanted_plain (by rfl)) (yld_load (by rfl) (by exact Try.isAgg3) (by repeat (first | exact .here | apply Sel.there)) (by rfl)) (by rfl) (by decide) (by repeat (first | exact SelL.nil | exact SelL.self | apply SelL.cons | exact Sel.here | apply Sel.there | apply SelL.skip)) ?_
                  refine WO.yld (by rfl) (wanted_plain (by rfl)) (yld_fieldAddr (by rfl) (by exact Try.runUnderlying44) (by rfl) (by exact Try.sizeOf31) (by rfl) (by rfl)) (by rfl) (by decide) (by repeat (first | exact SelL.nil | exact SelL.self | apply SelL.cons | exact Sel.here | apply Sel.there | apply SelL.skip)) ?_
                  refine WO.yld (by rfl) (wanted_plain (by rfl)) (yld_load (by rfl) (by exact Try.isAgg31) (by repeat (first | exact .here | apply Sel.there)) (by rfl)) (by rfl) (by decide) (by repeat (first | exact SelL.nil | exact SelL.self | apply SelL.cons | exact Sel.here | apply Sel.there | apply SelL.skip)) ?_
                  refine WO.eff (by rfl) (wanted_plain (by rfl)) (eff_call (by exact Try.call42) (by repeat (first | exact Evs.nil | apply Evs.cons | rfl)) (by repeat (first | exact SelL.nil | exact SelL.self | apply SelL.cons | exact Sel.here | apply Sel.there | apply SelL.skip)) (clone_spec pp pad p.b.length pcap (p.b.map bv) (by omega))) (by rfl) (by decide) (by intro x; repeat (first | exact SelL.nil | exact SelL.self | apply SelL.cons | exact Sel.here | apply Sel.there | apply SelL.skip)) ?_
                  rintro ⟨ad97, len97, cap97⟩ hl97
                  dsimp only at hl97
                  subst hl97
                  try dsimp only
                  refine WO.brk0 (by rfl) (wanted_plain (by rfl)) (eff_mapUpdate (by rfl) (by rfl) (by rfl) (by exact Try.runUnderlying83) (by exact Try.runUnderlying3) (by repeat (first | exact .here | apply Sel.there))) (by rfl) ?_
                  rintro _ -
                  try dsimp only
                  refine WO.done ?_
                  have hg2 : mget e1.held p.seq = none := (mget_keys hmm).1.1 (by cases h : mget mm p.seq with | none => rfl | some v => rw [h] at hc88; simp at hc88)
                  have hg1 : mget mm p.seq = none := (mget_keys hmm).1.2 hg2
                  have hm : holdM e1 p = { e1 with owing := true, held := e1.held ++ [(p.seq, p.b)] } := by unfold holdM; rw [if_pos ⟨hc85, hg2⟩, mset_none hg2]
                  rw [mset_none hg1]
                  refine WK.sat (fun w s => Sat.allSnoc ((s.sel1 (A := sl true 5 1 ad97 p.b.length cap97 (p.b.map bv)) (by repeat (first | exact .here | apply Sel.there))).slFreeze.bytShut.sel (As := [allR (byt 5 false) (mm.map (·.2)) (e1.held.map (·.2)), byt 5 false (.slice ad97 p.b.length cap97) p.b]) (by repeat (first | exact SelL.nil | exact SelL.self | apply SelL.cons | exact Sel.here | apply Sel.there | apply SelL.skip)))) ?_
                  exact WK.goto J11 (mm ++ [(p.seq, .slice ad97 p.b.length cap97)]) (by rw [hm]; simp [hmm]) (by repeat (first | exact KK.nil | refine KK.cons (by first | rfl | (simp; done)) ?_)) (by (try dsimp only); rw [hm]; (try dsimp only [endL, List.cons_append, List.nil_append]); simp only [List.map_append, List.map_cons, List.map_nil]; exact (by repeat (first | exact SelL.nil | exact SelL.self | apply SelL.cons | exact Sel.here | apply Sel.there | apply SelL.skip)))
                · skip
                  refine WK.skip ?_
                  have hm : holdM e1 p = { e1 with owing := true } := by
                    unfold holdM
                    rw [if_neg]
                    intro h
                    have hg1 := (mget_keys (k := p.seq) hmm).1.2 h.2
                    first | exact hc85 h.1 | (rw [hg1] at hc88; simp at hc88)
                  exact WK.goto J11 mm (by rw [hm]; exact hmm) (by repeat (first | exact KK.nil | refine KK.cons (by first | rfl | (simp; done)) ?_)) (by (try dsimp only); rw [hm]; (try dsimp only [endL, List.cons_append, List.nil_append]); exact (by repeat (first | exact SelL.nil | exact SelL.self | apply SelL.cons | exact Sel.here | apply Sel.there | apply SelL.skip)))
              · skip
                have hc85 := of_decide_eq_false hc85
                refine WO.skip (by rfl) (unwanted_some (by rfl) (by rfl) (by rfl) (by rfl)) (by rfl) (by decide) (by repeat (first | exact SelL.nil | exact SelL.self | apply SelL.cons | exact Sel.here | apply Sel.there | apply SelL.skip)) ?_
                refine WO.skip (by rfl) (unwanted_some (by rfl) (by rfl) (by rfl) (by rfl)) (by rfl) (by decide) (by repeat (first | exact SelL.nil | exact SelL.self | apply SelL.cons | exact Sel.here | apply Sel.there | apply SelL.skip)) ?_
                refine WO.yld (by rfl) (wanted_plain (by rfl)) (yld_pick_false (by rfl) (by rfl)) (by rfl) (by decide) (by repeat (first | exact SelL.nil | exact SelL.self | apply SelL.cons | exact Sel.here | apply Sel.there | apply SelL.skip)) ?_
                refine WO.done ?_
                refine WK.cond (by rfl) (fun h => by cases h) (fun _ => ?_)
                refine WK.skip ?_
                have hm : holdM e1 p = { e1 with owing := true } := by
                  unfold holdM
                  rw [if_neg]
                  intro h
                  have hg1 := (mget_keys (k := p.seq) hmm).1.2 h.2
                  first | exact hc85 h.1 | (rw [hg1] at hc88; simp at hc88)
                exact WK.goto J11 mm (by rw [hm]; exact hmm) (by repeat (first | exact KK.nil | refine KK.cons (by first | rfl | (simp; done)) ?_)) (by (try dsimp only); rw [hm]; (try dsimp only [endL, List.cons_append, List.nil_append]); exact (by repeat (first | exact SelL.nil | exact SelL.self | apply SelL.cons | exact Sel.here | apply Sel.there | apply SelL.skip)))
        · intro J47
          refine WK.cond (by rfl) (fun hc47 => ?_) (fun hc47 => ?_)
          · skip
            have hc47 := of_decide_eq_true hc47
            refine WK.seq ?_
            refine WK.region ?_
            refine WL.yld (wanted_plain (by rfl)) (yld_move (by rfl)) (by rfl) (by decide) ?_
            refine WL.yld (wanted_plain (by rfl)) (yld_move (by rfl)) (by rfl) (by decide) ?_
            refine WL.yld (wanted_plain (by rfl)) (yld_nilCheck (by rfl)) (by rfl) (by decide) ?_
            refine WL.yld (wanted_plain (by rfl)) (yld_fieldAddr (by rfl) (by exact Try.runUnderlying85) (by rfl) (by exact Try.sizeOf42) (by rfl) (by rfl)) (by rfl) (by decide) ?_
            refine WL.yld (wanted_plain (by rfl)) (yld_load (by rfl) (by exact Try.isAgg42) (by repeat (first | exact .here | apply Sel.there)) (by rfl)) (by rfl) (by decide) ?_
            refine WL.yld (wanted_plain (by rfl)) (yld_move (by rfl)) (by rfl) (by decide) ?_
            refine WL.eff (wanted_plain (by rfl)) (eff_call (by exact Try.call44) (by repeat (first | exact Evs.nil | apply Evs.cons | rfl)) (by repeat (first | exact SelL.nil | exact SelL.self | apply SelL.cons | exact Sel.here | apply Sel.there | apply SelL.skip)) (delete_spec wad wlen wcap (p.ack - e.acked).toNat (p.ack - e.acked) wvs (by omega) (by omega) (by omega) (by omega))) (by rfl) (by decide) ?_
            rintro _ -
            try dsimp only
            refine WL.yld (wanted_plain (by rfl)) (yld_nilCheck (by rfl)) (by rfl) (by decide) ?_
            refine WL.yld (wanted_plain (by rfl)) (yld_fieldAddr (by rfl) (by exact Try.runUnderlying85) (by rfl) (by exact Try.sizeOf42) (by rfl) (by rfl)) (by rfl) (by decide) ?_
            refine WL.eff0 (wanted_plain (by rfl)) (eff_store (by rfl) (by rfl) (by exact Try.sizeOf42) (by rfl) (by rfl) (by rfl) (by repeat (first | exact .here | apply Sel.there)) (by repeat (first | exact SetAts.nil | apply SetAts.cons | exact SetAt.here | apply SetAt.there))) (by rfl) ?_
            rintro _ -
            try dsimp only
            refine WL.done ?_
            refine WK.region ?_
            refine WL.yld (wanted_plain (by rfl)) (yld_move (by rfl)) (by rfl) (by decide) ?_
            refine WL.yld (wanted_plain (by rfl)) (yld_fieldAddr (by rfl) (by exact Try.runUnderlying44) (by rfl) (by exact Try.sizeOf3) (by rfl) (by rfl)) (by rfl) (by decide) ?_
            refine WL.yld (wanted_plain (by rfl)) (yld_load (by rfl) (by exact Try.isAgg3) (by repeat (first | exact .here | apply Sel.there)) (by rfl)) (by rfl) (by decide) ?_
            refine WL.yld (wanted_plain (by rfl)) (yld_nilCheck (by rfl)) (by rfl) (by decide) ?_
            refine WL.yld (wanted_plain (by rfl)) (yld_fieldAddr (by rfl) (by exact Try.runUnderlying85) (by rfl) (by exact Try.sizeOf3) (by rfl) (by rfl)) (by rfl) (by decide) ?_
            refine WL.eff0 (wanted_plain (by rfl)) (eff_store (by rfl) (by rfl) (by exact Try.sizeOf3) (by rfl) (by rfl) (by rfl) (by repeat (first | exact .here | apply Sel.there)) (by repeat (first | exact SetAts.nil | apply SetAts.cons | exact SetAt.here | apply SetAt.there))) (by rfl) ?_
            rintro _ -
            try dsimp only
            refine WL.done ?_
            have hm : ackM e p.ack = { e with waiting := e.waiting.drop (p.ack - e.acked).toNat, acked := p.ack } := if_pos hc47
            refine WK.sat (fun w s => Sat.allDrop (p.ack - e.acked).toNat (s.sel1 (A := allR (byt 5 false) wvs e.waiting) (by repeat (first | exact .here | apply Sel.there)))) ?_
            exact WK.goto J47 (wad, wlen - (p.ack - e.acked).toNat, wcap, wvs.drop (p.ack - e.acked).toNat) trivial (by repeat (first | exact KK.nil | refine KK.cons (by first | rfl | (simp; done)) ?_)) (by (try dsimp only); rw [hm]; (try dsimp only [endL, List.cons_append, List.nil_append]); exact (by repeat (first | exact SelL.nil | exact SelL.self | apply SelL.cons | exact Sel.here | apply Sel.there | apply SelL.skip)))
          · skip
            have hc47 := of_decide_eq_false hc47
            refine WK.skip ?_
            have hm : ackM e p.ack = e := if_neg hc47
            exact WK.goto J47 (wad, wlen, wcap, wvs) trivial (by repeat (first | exact KK.nil | refine KK.cons (by first | rfl | (simp; done)) ?_)) (by (try dsimp only); rw [hm]; (try dsimp only [endL, List.cons_append, List.nil_append]); exact (by repeat (first | exact SelL.nil | exact SelL.self | apply SelL.cons | exact Sel.here | apply Sel.there | apply SelL.skip)))
end Go.Proofs.Ytnknclbiamhnaaa
