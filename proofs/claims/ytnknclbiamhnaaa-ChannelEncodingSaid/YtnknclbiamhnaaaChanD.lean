import Derived.Test.YtnknclbiamhnaaaChanC
import Derived.Test.YtnknclbiamhnaaaSepJ
namespace Go.Proofs.Ytnknclbiamhnaaa
set_option linter.unusedVariables false
set_option linter.unusedSimpArgs false
set_option linter.unusedSectionVars false
open Go Go.Sep
attribute [local irreducible] row sl mapO held exL allR byt mapI slr endL
/-! ### The reference model -/
structure RM where
  window : Int
  sent : List (List UInt8)
  acked : Int
  got : Int
  held : List (Int × List UInt8)
  owing : Bool

/-- the cells of held messages -/
def heldC : List (Int × List UInt8) → List Value → List Value
  | p :: h, v :: vs => .int .i64 p.1 :: v :: heldC h vs
  | _, _ => []
theorem heldC_len : ∀ {h : List (Int × List UInt8)} {vs : List Value}, h.length = vs.length → (heldC h vs).length = h.length * 2
  | [], [], _ => rfl
  | [], _ :: _, h => by simp at h
  | _ :: _, [], h => by simp at h
  | q :: ps, u :: vs, h => by
    have := heldC_len (h := ps) (vs := vs) (by simpa using h)
    simp [heldC, this]; omega
theorem heldC_snoc (p : Int × List UInt8) (v : Value) : ∀ (ps : List (Int × List UInt8)) (vs : List Value), ps.length = vs.length → heldC (ps ++ [p]) (vs ++ [v]) = heldC ps vs ++ [.int .i64 p.1, v]
  | [], [], _ => rfl
  | [], _ :: _, h => by simp at h
  | _ :: _, [], h => by simp at h
  | q :: ps, u :: vs, h => by
    simp only [List.cons_append, heldC]
    rw [heldC_snoc p v ps vs (by simpa using h)]
theorem heldC_cells : ∀ {ps : List (Int × List UInt8)} {vs : List Value} {j : Nat} {p : Int × List UInt8} {v : Value}, ps[j]? = some p → vs[j]? = some v → (heldC ps vs)[j * 2]? = some (.int .i64 p.1) ∧ (heldC ps vs)[j * 2 + 1]? = some v
  | [], _, _, _, _, h, _ => by simp at h
  | _ :: _, [], _, _, _, _, h => by simp at h
  | q :: ps, u :: vs, 0, p, v, h1, h2 => by
    simp at h1 h2
    subst h1 h2
    exact ⟨rfl, rfl⟩
  | q :: ps, u :: vs, j + 1, p, v, h1, h2 => by
    have ih := heldC_cells (ps := ps) (vs := vs) (j := j) (by simpa using h1) (by simpa using h2)
    rw [show (j + 1) * 2 = j * 2 + 1 + 1 by omega]
    simpa [heldC] using ih
theorem heldC_erase : ∀ (ps : List (Int × List UInt8)) (vs : List Value) (i : Nat), ps.length = vs.length → (heldC ps vs).take (i * 2) ++ (heldC ps vs).drop ((i + 1) * 2) = heldC (ps.eraseIdx i) (vs.eraseIdx i)
  | [], [], _, _ => by simp [heldC]
  | [], _ :: _, _, h => by simp at h
  | _ :: _, [], _, h => by simp at h
  | q :: ps, u :: vs, 0, _ => by simp [heldC]
  | q :: ps, u :: vs, i + 1, h => by
    have ih := heldC_erase ps vs i (by simpa using h)
    rw [show (i + 1) * 2 = i * 2 + 1 + 1 by omega, show (i + 1 + 1) * 2 = (i + 1) * 2 + 1 + 1 by omega]
    simp only [heldC, List.take_succ_cons, List.drop_succ_cons, List.cons_append, List.eraseIdx_cons_succ]
    rw [ih]

theorem map_erase {α β : Type} (f : α → β) : ∀ (h : List α) (i : Nat), (h.map f).eraseIdx i = (h.eraseIdx i).map f
  | [], _ => by simp
  | _ :: _, 0 => by simp
  | _ :: h, i + 1 => by simp [map_erase f h i]
/-- Where a number first stands. -/
def fi : List (Int × List UInt8) → Int → Option Nat
  | [], _ => none
  | p :: h, k => if p.1 = k then some 0 else (fi h k).map (· + 1)
def findI (h : List (Int × List UInt8)) (k : Int) : Int := match fi h k with
  | none => -1
  | some i => i
theorem fi_none {h : List (Int × List UInt8)} {k : Int} : fi h k = none ↔ mget h k = none := by
  induction h with
  | nil => simp [fi, mget]
  | cons p h ih =>
    obtain ⟨j, b⟩ := p
    unfold fi mget
    split <;> simp [ih]
theorem fi_some : ∀ {h : List (Int × List UInt8)} {k : Int} {i : Nat}, fi h k = some i → ∃ b, h[i]? = some (k, b) ∧ mget h k = some b ∧ mdel h k = h.eraseIdx i
  | [], _, _, e => by simp [fi] at e
  | (j, b) :: h, k, i, e => by
    unfold fi at e
    split at e
    · rename_i hj
      simp only at hj
      cases e
      subst hj
      exact ⟨b, by simp, by simp [mget], by simp [mdel]⟩
    · rename_i hj
      simp only at hj
      simp only [Option.map_eq_some_iff] at e
      obtain ⟨a, ha, rfl⟩ := e
      obtain ⟨b', h1, h2, h3⟩ := fi_some ha
      exact ⟨b', by simpa using h1, by simp [mget, hj, h2], by simp [mdel, hj, h3]⟩
/-- How far one has looked: none of the first i. -/
theorem fi_look : ∀ {h : List (Int × List UInt8)} {k : Int} {i : Nat} {p : Int × List UInt8}, (∀ j < i, ∀ q, h[j]? = some q → q.1 ≠ k) → h[i]? = some p → p.1 = k → fi h k = some i
  | [], _, _, _, _, h, _ => by simp at h
  | q :: h, k, 0, p, _, e, hp => by
    simp at e; subst e
    simp [fi, hp]
  | q :: h, k, i + 1, p, hn, e, hp => by
    have h0 := hn 0 (by omega) q (by simp)
    have := fi_look (h := h) (k := k) (i := i) (p := p) (fun j hj r hr => hn (j + 1) (by omega) r (by simpa using hr)) (by simpa using e) hp
    simp [fi, h0, this]
theorem fi_not : ∀ {h : List (Int × List UInt8)} {k : Int}, (∀ j < h.length, ∀ q, h[j]? = some q → q.1 ≠ k) → fi h k = none
  | [], _, _ => rfl
  | q :: h, k, hn => by
    have h0 := hn 0 (by simp) q (by simp)
    have := fi_not (h := h) (k := k) (fun j hj r hr => hn (j + 1) (by simpa using hj) r (by simpa using hr))
    simp [fi, h0, this]

def sendR (r : RM) (b : List UInt8) : Int × RM := if 65536 < b.length ∨ 1000 ≤ (r.sent.length : Int) - r.acked then (4, r) else (0, { r with sent := r.sent ++ [b] })
def outRL (r : RM) (a : Nat) : List Pkt := pkts r.acked r.got 0 ((r.sent.drop a).take r.window.toNat)
def outR (r : RM) (a : Nat) : List Pkt × RM := ((if outRL r a = [] ∧ r.owing = true then [⟨0, r.got, []⟩] else outRL r a), { r with owing := false })
def ackR (r : RM) (a : Int) : RM := { r with acked := max r.acked a }
def inR (r : RM) (p : Pkt) : List (List UInt8) × RM :=
  if validB p.seq p.ack p.b.length = false ∨ (r.sent.length : Int) < p.ack ∨ r.got + 16 < p.seq then ([], r)
  else if p.seq = 0 then ([], ackR r p.ack)
  else if p.seq ≤ r.got ∨ mget r.held p.seq ≠ none then ([], { ackR r p.ack with owing := true })
  else
    let h := r.held ++ [(p.seq, p.b)]
    let d := deliver h.length r.got h
    (d.1, { ackR r p.ack with owing := true, got := d.2.1, held := d.2.2 })

structure RX where
  sad : Option Addr
  slen : Nat
  scap : Nat
  svs : List Value
  had : Option Addr
  hlen : Nat
  hcap : Nat
  hvs : List Value
def refL (q : Nat) (r : RM) (x : RX) : List HProp :=
  [row true q 50 [.int .i64 r.window, .slice x.sad x.slen x.scap, .int .i64 r.acked, .int .i64 r.got, .slice x.had x.hlen x.hcap, .bool r.owing],
   sl true 31 1 x.sad x.slen x.scap x.svs, allR (byt 5 false) x.svs r.sent, sl true 91 2 x.had x.hlen x.hcap (heldC r.held x.hvs), allR (byt 5 false) x.hvs (r.held.map (·.2))]
def refR (q : Nat) (r : RM) : HProp := exL (fun _ : RX => True) (refL q r)
theorem Sat.refShut {g w : World} {Ps : List HProp} {q : Nat} {r : RM} (x : RX) (s : Sat g w (refL q r x ++ Ps)) : Sat g w (refR q r :: Ps) := by
  unfold refR
  exact Sat.exShut x trivial s
theorem Triple.refOpen {P : Program} {f : FuncId} {args : Array Value} {Pre : List HProp} {ι : Type} {φ : ι → Prop} {val : ι → Value} {Post : ι → List HProp} {q : Nat} {r : RM}
    (h : ∀ x : RX, Triple P f args (refL q r x ++ Pre) ι φ val Post) : Triple P f args (refR q r :: Pre) ι φ val Post := by
  unfold refR
  exact Triple.openEx fun x _ => h x
attribute [irreducible] refR
theorem elem30 : ElemT Try.prog 30 40 3 40 := ⟨Try.underlying30, ⟨Try.t40, _, by kernel_rfl, rfl, rfl, rfl, rfl⟩⟩
theorem elem48 : ElemT Try.prog 48 91 2 32 := ⟨Try.underlying48, ⟨Try.t91, _, by kernel_rfl, rfl, rfl, rfl, rfl⟩⟩
theorem places50 (w : World) : ∀ {fs : Array Field}, Try.prog.underlying 50 = some (.struct fs) → Sem.run Try.prog (fs.mapM fun f => Prod.mk f.offset <$> sizeOf f.type) w = .ok #[(0, 1), (1, 1), (2, 1), (3, 1), (4, 1), (5, 1)] w := by
  intro fs h
  rw [Try.underlying50] at h
  cases h
  simp
theorem places40 (w : World) : ∀ {fs : Array Field}, Try.prog.underlying 40 = some (.struct fs) → Sem.run Try.prog (fs.mapM fun f => Prod.mk f.offset <$> sizeOf f.type) w = .ok #[(0, 1), (1, 1), (2, 1)] w := by
  intro fs h
  rw [Try.underlying40] at h
  cases h
  simp
theorem places91 (w : World) : ∀ {fs : Array Field}, Try.prog.underlying 91 = some (.struct fs) → Sem.run Try.prog (fs.mapM fun f => Prod.mk f.offset <$> sizeOf f.type) w = .ok #[(0, 1), (1, 1)] w := by
  intro fs h
  rw [Try.underlying91] at h
  cases h
  simp
set_option maxRecDepth 20000 in
set_option maxHeartbeats 1000000 in
theorem refNew_spec (i : Int) (hi : 1 ≤ i ∧ i ≤ 16) :
    Triple Try.prog 11 #[.int .i64 i] [] (Nat) (fun _ => True) (fun q => .tuple #[.pointer (some ⟨q, 0, none⟩), .bool true]) (fun q => [refR q ⟨i, [], 0, 0, [], false⟩]) := by
  refine Triple.of_body (args := [.int .i64 i]) Try.func11 rfl Try.ntmps11 (by simp) (fun g F => ?_)
  dsimp only [numb, List.cons_append, List.nil_append]
  refine WK.seq ?_
  refine WK.region ?_
  refine WL.yld (wanted_plain (by rfl)) (yld_assign (by rfl)) (by rfl) (by decide) ?_
  refine WL.yld (wanted_plain (by rfl)) (yld_assign (by rfl)) (by rfl) (by decide) ?_
  refine WL.done ?_
  refine WK.seq ?_
  refine WK.region ?_
  refine WL.yld (wanted_plain (by rfl)) (yld_move (by rfl)) (by rfl) (by decide) ?_
  refine WL.yld (wanted_plain (by rfl)) (yld_build (by repeat (first | exact Prts.nil | apply Prts.cons | rfl)) (by exact Try.zeroValue50) (by exact Try.runUnderlying50) (by exact fun w => places50 w Try.underlying50) (by first | decide | simp) (by repeat (first | exact Fill.nil | apply Fill.cons | exact SetAts.nil | apply SetAts.cons | exact SetAt.here | apply SetAt.there | rfl))) (by rfl) (by decide) ?_
  refine WL.eff (wanted_plain (by rfl)) (eff_box (by rfl) (by rfl)) (by rfl) (by decide) ?_
  rintro b6 -
  try dsimp only
  refine WL.yld (wanted_plain (by rfl)) (yld_move (by rfl)) (by rfl) (by decide) ?_
  refine WL.yld (wanted_plain (by rfl)) (yld_geq (by rfl) (by rfl)) (by rfl) (by decide) ?_
  refine WL.yld (wanted_plain (by rfl)) (yld_move (by rfl)) (by rfl) (by decide) ?_
  refine WL.split (d := 9) (by rfl) (fun hc9 => ?_) (fun hc9 => ?_)
  · skip
    have hc9 := of_decide_eq_true hc9
    refine WL.yld (wanted_some (by rfl) (by rfl) (by rfl)) (yld_move (by rfl)) (by rfl) (by decide) ?_
    refine WL.yld (wanted_some (by rfl) (by rfl) (by rfl)) (yld_leq (by rfl) (by rfl)) (by rfl) (by decide) ?_
    refine WL.yld (wanted_plain (by rfl)) (yld_pick_true (by rfl) (by rfl)) (by rfl) (by decide) ?_
    refine WL.yld (wanted_plain (by rfl)) (yld_assign (by rfl)) (by rfl) (by decide) ?_
    refine WL.yld (wanted_plain (by rfl)) (yld_assign (by rfl)) (by rfl) (by decide) ?_
    refine WL.done ?_
    refine WK.ret ?_
    repeat (first | refine RQ.block ?_ | refine RQ.then_ ?_)
    refine RQ.body (results2 (by rfl) (by rfl) (by rfl)) (fun w s => ?_)
    refine ⟨b6, trivial, by simp; omega, ?_⟩
    refine Sat.refShut ⟨none, 0, 0, [], none, 0, 0, []⟩ ?_
    dsimp only [refL, List.cons_append, List.nil_append]
    have s2 := ((((s.nilSl true 31 1).allNil (Rl := byt 5 false)).nilSl true 91 2).allNil (Rl := byt 5 false))
    exact s2.toCs (by repeat (first | exact SelL.nil | exact SelL.self | apply SelL.cons | exact Sel.here | apply Sel.there | apply SelL.skip))
  · skip
    have hc9 := of_decide_eq_false hc9
    omega
set_option maxRecDepth 20000 in
set_option maxHeartbeats 1000000 in
theorem refSend_spec (q : Nat) (r : RM) (ha : 0 ≤ r.acked ∧ r.acked ≤ 1000000) (hs : r.sent.length ≤ 1000000) (ad : Option Addr) (cap : Nat) (bs : List UInt8) (hb : bs.length ≤ 140737488355328) :
    Triple Try.prog 14 #[.pointer (some ⟨q, 0, none⟩), .slice ad bs.length cap] [refR q r, sl false 5 1 ad bs.length cap (bs.map bv)] (Unit) (fun _ => True) (fun _ => .int .i64 (sendR r bs).1) (fun _ => [refR q (sendR r bs).2]) := by
  refine Triple.refOpen ?_
  rintro ⟨sad, slen, scap, svs, had, hlen, hcap, hvs⟩
  dsimp only [refL]
  refine Triple.of_body (args := [.pointer (some ⟨q, 0, none⟩), .slice ad bs.length cap]) Try.func14 rfl Try.ntmps14 (by simp) (fun g F => ?_)
  dsimp only [numb, List.cons_append, List.nil_append]
  refine WK.know (fun w s => And.intro (Sat.slLen (s.sel1 (A := sl true 31 1 sad slen scap svs) (by repeat (first | exact .here | apply Sel.there)))) (And.intro (Sat.allLen (s.sel1 (A := allR (byt 5 false) svs r.sent) (by repeat (first | exact .here | apply Sel.there)))) (And.intro (Sat.slLen (s.sel1 (A := sl true 91 2 had hlen hcap (heldC r.held hvs)) (by repeat (first | exact .here | apply Sel.there)))) (Sat.allLen (s.sel1 (A := allR (byt 5 false) hvs (r.held.map (·.2))) (by repeat (first | exact .here | apply Sel.there))))))) (fun hkn => ?_)
  obtain ⟨⟨n1, -⟩, n2, ⟨n3, -⟩, n4⟩ := hkn
  have n5 : r.held.length = hvs.length := by simpa using n4.symm
  rw [heldC_len n5] at n3
  have n6 : r.held.length = hlen := by omega
  have n7 : r.sent.length = slen := by omega
  refine WK.seq ?_
  refine WK.region ?_
  refine WL.yld (wanted_plain (by rfl)) (yld_assign (by rfl)) (by rfl) (by decide) ?_
  refine WL.done ?_
  refine WK.seq ?_
  refine WK.seq ?_
  refine WK.drawnQ (by kernel_rfl) [(0, 0), (1, 0), (2, 0), (3, 0), (4, 0), (5, 0), (6, 0), (7, 0), (8, 0), (9, 0), (10, 0), (11, 0), (12, 0), (13, 0), (14, 0), (15, 0)] (by kernel_rfl) (by kernel_rfl) (by kernel_rfl) ?_
  refine WO.yld (by rfl) (wanted_plain (by rfl)) (yld_move (by rfl)) (by rfl) (by decide) (by repeat (first | exact SelL.nil | exact SelL.self | apply SelL.cons | exact Sel.here | apply Sel.there | apply SelL.skip)) ?_
  refine WO.yld (by rfl) (wanted_plain (by rfl)) (yld_len (by rfl) (by exact Try.runUnderlying31)) (by rfl) (by decide) (by repeat (first | exact SelL.nil | exact SelL.self | apply SelL.cons | exact Sel.here | apply Sel.there | apply SelL.skip)) ?_
  refine WO.yld (by rfl) (wanted_plain (by rfl)) (yld_gtr (by rfl) (by rfl)) (by rfl) (by decide) (by repeat (first | exact SelL.nil | exact SelL.self | apply SelL.cons | exact Sel.here | apply Sel.there | apply SelL.skip)) ?_
  refine WO.yld (by rfl) (wanted_plain (by rfl)) (yld_move (by rfl)) (by rfl) (by decide) (by repeat (first | exact SelL.nil | exact SelL.self | apply SelL.cons | exact Sel.here | apply Sel.there | apply SelL.skip)) ?_
  refine WO.split (d := 8) (by rfl) (fun hc8 => ?_) (fun hc8 => ?_)
  · skip
    have hc8 := of_decide_eq_true hc8
    refine WO.skip (by rfl) (unwanted_some (by rfl) (by rfl) (by rfl) (by rfl)) (by rfl) (by decide) (by repeat (first | exact SelL.nil | exact SelL.self | apply SelL.cons | exact Sel.here | apply Sel.there | apply SelL.skip)) ?_
    refine WO.skip (by rfl) (unwanted_some (by rfl) (by rfl) (by rfl) (by rfl)) (by rfl) (by decide) (by repeat (first | exact SelL.nil | exact SelL.self | apply SelL.cons | exact Sel.here | apply Sel.there | apply SelL.skip)) ?_
    refine WO.skip (by rfl) (unwanted_some (by rfl) (by rfl) (by rfl) (by rfl)) (by rfl) (by decide) (by repeat (first | exact SelL.nil | exact SelL.self | apply SelL.cons | exact Sel.here | apply Sel.there | apply SelL.skip)) ?_
    refine WO.skip (by rfl) (unwanted_some (by rfl) (by rfl) (by rfl) (by rfl)) (by rfl) (by decide) (by repeat (first | exact SelL.nil | exact SelL.self | apply SelL.cons | exact Sel.here | apply Sel.there | apply SelL.skip)) ?_
    refine WO.skip (by rfl) (unwanted_some (by rfl) (by rfl) (by rfl) (by rfl)) (by rfl) (by decide) (by repeat (first | exact SelL.nil | exact SelL.self | apply SelL.cons | exact Sel.here | apply Sel.there | apply SelL.skip)) ?_
    refine WO.skip (by rfl) (unwanted_some (by rfl) (by rfl) (by rfl) (by rfl)) (by rfl) (by decide) (by repeat (first | exact SelL.nil | exact SelL.self | apply SelL.cons | exact Sel.here | apply Sel.there | apply SelL.skip)) ?_
    refine WO.skip (by rfl) (unwanted_some (by rfl) (by rfl) (by rfl) (by rfl)) (by rfl) (by decide) (by repeat (first | exact SelL.nil | exact SelL.self | apply SelL.cons | exact Sel.here | apply Sel.there | apply SelL.skip)) ?_
    refine WO.skip (by rfl) (unwanted_some (by rfl) (by rfl) (by rfl) (by rfl)) (by rfl) (by decide) (by repeat (first | exact SelL.nil | exact SelL.self | apply SelL.cons | exact Sel.here | apply Sel.there | apply SelL.skip)) ?_
    refine WO.skip (by rfl) (unwanted_some (by rfl) (by rfl) (by rfl) (by rfl)) (by rfl) (by decide) (by repeat (first | exact SelL.nil | exact SelL.self | apply SelL.cons | exact Sel.here | apply Sel.there | apply SelL.skip)) ?_
    refine WO.skip (by rfl) (unwanted_some (by rfl) (by rfl) (by rfl) (by rfl)) (by rfl) (by decide) (by repeat (first | exact SelL.nil | exact SelL.self | apply SelL.cons | exact Sel.here | apply Sel.there | apply SelL.skip)) ?_
    refine WO.skip (by rfl) (unwanted_some (by rfl) (by rfl) (by rfl) (by rfl)) (by rfl) (by decide) (by repeat (first | exact SelL.nil | exact SelL.self | apply SelL.cons | exact Sel.here | apply Sel.there | apply SelL.skip)) ?_
    refine WO.yld (by rfl) (wanted_plain (by rfl)) (yld_pick_true (by rfl) (by rfl)) (by rfl) (by decide) (by repeat (first | exact SelL.nil | exact SelL.self | apply SelL.cons | exact Sel.here | apply Sel.there | apply SelL.skip)) ?_
    refine WO.done ?_
    refine WK.cond (by rfl) (fun _ => ?_) (fun h => by cases h)
    refine WK.seq ?_
    refine WK.region ?_
    refine WL.yld (wanted_plain (by rfl)) (yld_assign (by rfl)) (by rfl) (by decide) ?_
    refine WL.done ?_
    refine WK.ret ?_
    repeat (first | refine RQ.block ?_ | refine RQ.then_ ?_)
    refine RQ.body (results1 (by rfl) (by rfl)) (fun w s => ?_)
    have hm : sendR r bs = (4, r) := if_pos (by omega)
    refine ⟨(), trivial, by rw [hm], ?_⟩
    rw [hm]
    refine Sat.refShut ⟨sad, slen, scap, svs, had, hlen, hcap, hvs⟩ ?_
    dsimp only [refL, List.cons_append, List.nil_append]
    exact s.toCs (by repeat (first | exact SelL.nil | exact SelL.self | apply SelL.cons | exact Sel.here | apply Sel.there | apply SelL.skip))
  · skip
    have hc8 := of_decide_eq_false hc8
    refine WO.yld (by rfl) (wanted_some (by rfl) (by rfl) (by rfl)) (yld_move (by rfl)) (by rfl) (by decide) (by repeat (first | exact SelL.nil | exact SelL.self | apply SelL.cons | exact Sel.here | apply Sel.there | apply SelL.skip)) ?_
    refine WO.yld (by rfl) (wanted_some (by rfl) (by rfl) (by rfl)) (yld_nilCheck (by rfl)) (by rfl) (by decide) (by repeat (first | exact SelL.nil | exact SelL.self | apply SelL.cons | exact Sel.here | apply Sel.there | apply SelL.skip)) ?_
    refine WO.yld (by rfl) (wanted_some (by rfl) (by rfl) (by rfl)) (yld_fieldAddr (by rfl) (by exact Try.runUnderlying50) (by rfl) (by exact Try.sizeOf42) (by rfl) (by rfl)) (by rfl) (by decide) (by repeat (first | exact SelL.nil | exact SelL.self | apply SelL.cons | exact Sel.here | apply Sel.there | apply SelL.skip)) ?_
    refine WO.yld (by rfl) (wanted_some (by rfl) (by rfl) (by rfl)) (yld_load (by rfl) (by exact Try.isAgg42) (by repeat (first | exact .here | apply Sel.there)) (by rfl)) (by rfl) (by decide) (by repeat (first | exact SelL.nil | exact SelL.self | apply SelL.cons | exact Sel.here | apply Sel.there | apply SelL.skip)) ?_
    refine WO.yld (by rfl) (wanted_some (by rfl) (by rfl) (by rfl)) (yld_len (by rfl) (by exact Try.runUnderlying42)) (by rfl) (by decide) (by repeat (first | exact SelL.nil | exact SelL.self | apply SelL.cons | exact Sel.here | apply Sel.there | apply SelL.skip)) ?_
    refine WO.yld (by rfl) (wanted_some (by rfl) (by rfl) (by rfl)) (yld_move (by rfl)) (by rfl) (by decide) (by repeat (first | exact SelL.nil | exact SelL.self | apply SelL.cons | exact Sel.here | apply Sel.there | apply SelL.skip)) ?_
    refine WO.yld (by rfl) (wanted_some (by rfl) (by rfl) (by rfl)) (yld_nilCheck (by rfl)) (by rfl) (by decide) (by repeat (first | exact SelL.nil | exact SelL.self | apply SelL.cons | exact Sel.here | apply Sel.there | apply SelL.skip)) ?_
    refine WO.yld (by rfl) (wanted_some (by rfl) (by rfl) (by rfl)) (yld_fieldAddr (by rfl) (by exact Try.runUnderlying50) (by rfl) (by exact Try.sizeOf3) (by rfl) (by rfl)) (by rfl) (by decide) (by repeat (first | exact SelL.nil | exact SelL.self | apply SelL.cons | exact Sel.here | apply Sel.there | apply SelL.skip)) ?_
    refine WO.yld (by rfl) (wanted_some (by rfl) (by rfl) (by rfl)) (yld_load (by rfl) (by exact Try.isAgg3) (by repeat (first | exact .here | apply Sel.there)) (by rfl)) (by rfl) (by decide) (by repeat (first | exact SelL.nil | exact SelL.self | apply SelL.cons | exact Sel.here | apply Sel.there | apply SelL.skip)) ?_
    refine WO.yld (by rfl) (wanted_some (by rfl) (by rfl) (by rfl)) (yld_sub (by rfl) (by rfl) (by first | exact w64 (by omega) (by omega) | rfl)) (by rfl) (by decide) (by repeat (first | exact SelL.nil | exact SelL.self | apply SelL.cons | exact Sel.here | apply Sel.there | apply SelL.skip)) ?_
    refine WO.yld (by rfl) (wanted_some (by rfl) (by rfl) (by rfl)) (yld_geq (by rfl) (by rfl)) (by rfl) (by decide) (by repeat (first | exact SelL.nil | exact SelL.self | apply SelL.cons | exact Sel.here | apply Sel.there | apply SelL.skip)) ?_
    refine WO.yld (by rfl) (wanted_plain (by rfl)) (yld_pick_false (by rfl) (by rfl)) (by rfl) (by decide) (by repeat (first | exact SelL.nil | exact SelL.self | apply SelL.cons | exact Sel.here | apply Sel.there | apply SelL.skip)) ?_
    refine WO.done ?_
    refine WK.cond (by rfl) (fun hc20 => ?_) (fun hc20 => ?_)
    · skip
      have hc20 := of_decide_eq_true hc20
      refine WK.seq ?_
      refine WK.region ?_
      refine WL.yld (wanted_plain (by rfl)) (yld_assign (by rfl)) (by rfl) (by decide) ?_
      refine WL.done ?_
      refine WK.ret ?_
      repeat (first | refine RQ.block ?_ | refine RQ.then_ ?_)
      refine RQ.body (results1 (by rfl) (by rfl)) (fun w s => ?_)
      have hm : sendR r bs = (4, r) := if_pos (by omega)
      refine ⟨(), trivial, by rw [hm], ?_⟩
      rw [hm]
      refine Sat.refShut ⟨sad, slen, scap, svs, had, hlen, hcap, hvs⟩ ?_
      dsimp only [refL, List.cons_append, List.nil_append]
      exact s.toCs (by repeat (first | exact SelL.nil | exact SelL.self | apply SelL.cons | exact Sel.here | apply Sel.there | apply SelL.skip))
    · skip
      have hc20 := of_decide_eq_false hc20
      refine WK.skip ?_
      refine WK.seq ?_
      refine WK.region ?_
      refine WL.yld (wanted_plain (by rfl)) (yld_move (by rfl)) (by rfl) (by decide) ?_
      refine WL.yld (wanted_plain (by rfl)) (yld_move (by rfl)) (by rfl) (by decide) ?_
      refine WL.yld (wanted_plain (by rfl)) (yld_nilCheck (by rfl)) (by rfl) (by decide) ?_
      refine WL.yld (wanted_plain (by rfl)) (yld_fieldAddr (by rfl) (by exact Try.runUnderlying50) (by rfl) (by exact Try.sizeOf42) (by rfl) (by rfl)) (by rfl) (by decide) ?_
      refine WL.yld (wanted_plain (by rfl)) (yld_load (by rfl) (by exact Try.isAgg42) (by repeat (first | exact .here | apply Sel.there)) (by rfl)) (by rfl) (by decide) ?_
      refine WL.yld (wanted_plain (by rfl)) (yld_move (by rfl)) (by rfl) (by decide) ?_
      refine WL.eff (wanted_plain (by rfl)) (eff_mkSlice1 (by rfl) (by rfl) (by exact Try.runUnderlying42) (by exact Try.sizeOf31) (by exact Try.zeroValue31) (by rfl) (by rfl) (by decide) (by rfl)) (by rfl) (by decide) ?_
      rintro b27 -
      try dsimp only
      refine WL.eff (wanted_plain (by rfl)) (eff_append (by rfl) (by rfl) (by exact elem42) (by exact Try.underlying42) (by repeat (first | exact SelL.nil | exact SelL.self | apply SelL.cons | exact Sel.here | apply Sel.there | apply SelL.skip)) (by omega) (by omega)) (by rfl) (by decide) ?_
      rintro ⟨ad28, cap28⟩ -
      try dsimp only
      refine WL.yld (wanted_plain (by rfl)) (yld_nilCheck (by rfl)) (by rfl) (by decide) ?_
      refine WL.yld (wanted_plain (by rfl)) (yld_fieldAddr (by rfl) (by exact Try.runUnderlying50) (by rfl) (by exact Try.sizeOf42) (by rfl) (by rfl)) (by rfl) (by decide) ?_
      refine WL.eff0 (wanted_plain (by rfl)) (eff_store (by rfl) (by rfl) (by exact Try.sizeOf42) (by rfl) (by rfl) (by rfl) (by repeat (first | exact .here | apply Sel.there)) (by repeat (first | exact SetAts.nil | apply SetAts.cons | exact SetAt.here | apply SetAt.there))) (by rfl) ?_
      rintro _ -
      try dsimp only
      refine WL.done ?_
      refine WK.seq ?_
      refine WK.region ?_
      refine WL.yld (wanted_plain (by rfl)) (yld_assign (by rfl)) (by rfl) (by decide) ?_
      refine WL.done ?_
      refine WK.ret ?_
      repeat (first | refine RQ.block ?_ | refine RQ.then_ ?_)
      refine RQ.body (results1 (by rfl) (by rfl)) (fun w s => ?_)
      have hm : sendR r bs = (0, { r with sent := r.sent ++ [bs] }) := if_neg (by omega)
      refine ⟨(), trivial, by rw [hm], ?_⟩
      rw [hm]
      refine Sat.refShut ⟨ad28, slen + 1, cap28, svs ++ [.slice ad bs.length cap], had, hlen, hcap, hvs⟩ ?_
      dsimp only [refL, List.cons_append, List.nil_append]
      have s1 := Sat.allSnoc ((s.sel1 (A := sl false 5 1 ad bs.length cap (bs.map bv)) (by repeat (first | exact .here | apply Sel.there))).bytShut.sel (As := [allR (byt 5 false) svs r.sent, byt 5 false (.slice ad bs.length cap) bs]) (by repeat (first | exact SelL.nil | exact SelL.self | apply SelL.cons | exact Sel.here | apply Sel.there | apply SelL.skip)))
      exact s1.toCs (by repeat (first | exact SelL.nil | exact SelL.self | apply SelL.cons | exact Sel.here | apply Sel.there | apply SelL.skip))
set_option maxRecDepth 20000 in
set_option maxHeartbeats 1000000 in
theorem refOut_spec (q : Nat) (r : RM) (a : Nat) (ha : r.acked = a) (hal : a ≤ r.sent.length) (hw : 1 ≤ r.window ∧ r.window ≤ 16) (hg : 0 ≤ r.got ∧ r.got ≤ 1000000) (hs : r.sent.length ≤ 1000000) :
    Triple Try.prog 16 #[.pointer (some ⟨q, 0, none⟩)] [refR q r] (Option Addr × Nat × Nat × List Value) (fun x => x.2.1 = (outR r a).1.length ∧ x.2.2.2.length = x.2.1) (fun x => .slice x.1 x.2.1 x.2.2.1) (fun x => [refR q (outR r a).2, sl true 40 3 x.1 x.2.1 x.2.2.1 (pktC (outR r a).1 x.2.2.2), allR (byt 5 false) x.2.2.2 ((outR r a).1.map (·.b))]) := by
  refine Triple.refOpen ?_
  rintro ⟨sad, slen, scap, svs, had, hlen, hcap, hvs⟩
  dsimp only [refL]
  refine Triple.of_body (args := [.pointer (some ⟨q, 0, none⟩)]) Try.func16 rfl Try.ntmps16 (by simp) (fun g F => ?_)
  dsimp only [numb, List.cons_append, List.nil_append]
  refine WK.know (fun w s => And.intro (Sat.slLen (s.sel1 (A := sl true 31 1 sad slen scap svs) (by repeat (first | exact .here | apply Sel.there)))) (And.intro (Sat.allLen (s.sel1 (A := allR (byt 5 false) svs r.sent) (by repeat (first | exact .here | apply Sel.there)))) (And.intro (Sat.slLen (s.sel1 (A := sl true 91 2 had hlen hcap (heldC r.held hvs)) (by repeat (first | exact .here | apply Sel.there)))) (Sat.allLen (s.sel1 (A := allR (byt 5 false) hvs (r.held.map (·.2))) (by repeat (first | exact .here | apply Sel.there))))))) (fun hkn => ?_)
  obtain ⟨⟨n1, -⟩, n2, ⟨n3, -⟩, n4⟩ := hkn
  have n5 : r.held.length = hvs.length := by simpa using n4.symm
  rw [heldC_len n5] at n3
  have n6 : r.held.length = hlen := by omega
  have n7 : r.sent.length = slen := by omega
  refine WK.seq ?_
  refine WK.region ?_
  refine WL.yld (wanted_plain (by rfl)) (yld_assign (by rfl)) (by rfl) (by decide) ?_
  refine WL.done ?_
  refine WK.seq ?_
  refine WK.region ?_
  refine WL.yld (wanted_plain (by rfl)) (yld_assign (by rfl)) (by rfl) (by decide) ?_
  refine WL.done ?_
  refine WK.seq ?_
  refine WK.seq ?_
  refine WK.region ?_
  refine WL.yld (wanted_plain (by rfl)) (yld_move (by rfl)) (by rfl) (by decide) ?_
  refine WL.yld (wanted_plain (by rfl)) (yld_nilCheck (by rfl)) (by rfl) (by decide) ?_
  refine WL.yld (wanted_plain (by rfl)) (yld_fieldAddr (by rfl) (by exact Try.runUnderlying50) (by rfl) (by exact Try.sizeOf3) (by rfl) (by rfl)) (by rfl) (by decide) ?_
  refine WL.yld (wanted_plain (by rfl)) (yld_load (by rfl) (by exact Try.isAgg3) (by repeat (first | exact .here | apply Sel.there)) (by rfl)) (by rfl) (by decide) ?_
  refine WL.yld (wanted_plain (by rfl)) (yld_assign (by rfl)) (by rfl) (by decide) ?_
  refine WL.done ?_
  refine WK.block ?_
  rw [ha]
  refine WK.sat (fun w s => ((s.nilSl true 40 3).allNil (Rl := byt 5 false))) ?_
  rw [← ha]
  refine WK.loop (ι := Nat × Option Addr × Nat × List Value) (fun x => x.1 ≤ min (r.sent.length - a) r.window.toNat ∧ x.2.2.2.length = x.1) (fun x => [(0, .pointer (some ⟨q, 0, none⟩)), (3, .slice x.2.1 x.1 x.2.2.1), (4, .int .i64 ((a + x.1 : Nat) : Int))]) (fun x => sl true 40 3 x.2.1 x.1 x.2.2.1 (pktC (pkts r.acked r.got 0 ((r.sent.drop a).take x.1)) x.2.2.2) :: allR (byt 5 false) x.2.2.2 ((r.sent.drop a).take x.1) :: row true q 50 [.int .i64 r.window, .slice sad slen scap, .int .i64 r.acked, .int .i64 r.got, .slice had hlen hcap, .bool r.owing] :: sl true 31 1 sad slen scap svs :: allR (byt 5 false) svs r.sent :: sl true 91 2 had hlen hcap (heldC r.held hvs) :: allR (byt 5 false) hvs (r.held.map (·.2)) :: F) (fun x => r.sent.length - a - x.1) ((0, none, 0, [])) (⟨Nat.zero_le _, rfl⟩) (by (try rw [ha]); repeat (first | exact KK.nil | refine KK.cons (by first | rfl | (simp; done)) ?_)) (by repeat (first | exact SelL.nil | exact SelL.self | apply SelL.cons | exact Sel.here | apply Sel.there | apply SelL.skip)) ?_
  rintro ⟨j, oad, ocap, vs⟩ ⟨hj, hvl⟩ N hN
  dsimp only at hj hvl ⊢
  refine WK.seq ?_
  refine WK.seq ?_
  refine WK.drawnQ (by kernel_rfl) [(0, 0), (1, 0), (2, 0), (3, 0), (4, 0), (5, 0), (6, 0), (7, 0), (8, 0), (9, 0), (10, 0), (11, 0), (12, 0), (13, 0), (14, 0), (15, 0), (16, 0), (17, 0), (18, 0), (19, 0)] (by kernel_rfl) (by kernel_rfl) (by kernel_rfl) ?_
  refine WO.yld (by rfl) (wanted_plain (by rfl)) (yld_move (by rfl)) (by rfl) (by decide) (by repeat (first | exact SelL.nil | exact SelL.self | apply SelL.cons | exact Sel.here | apply Sel.there | apply SelL.skip)) ?_
  refine WO.yld (by rfl) (wanted_plain (by rfl)) (yld_move (by rfl)) (by rfl) (by decide) (by repeat (first | exact SelL.nil | exact SelL.self | apply SelL.cons | exact Sel.here | apply Sel.there | apply SelL.skip)) ?_
  refine WO.yld (by rfl) (wanted_plain (by rfl)) (yld_nilCheck (by rfl)) (by rfl) (by decide) (by repeat (first | exact SelL.nil | exact SelL.self | apply SelL.cons | exact Sel.here | apply Sel.there | apply SelL.skip)) ?_
  refine WO.yld (by rfl) (wanted_plain (by rfl)) (yld_fieldAddr (by rfl) (by exact Try.runUnderlying50) (by rfl) (by exact Try.sizeOf42) (by rfl) (by rfl)) (by rfl) (by decide) (by repeat (first | exact SelL.nil | exact SelL.self | apply SelL.cons | exact Sel.here | apply Sel.there | apply SelL.skip)) ?_
  refine WO.yld (by rfl) (wanted_plain (by rfl)) (yld_load (by rfl) (by exact Try.isAgg42) (by repeat (first | exact .here | apply Sel.there)) (by rfl)) (by rfl) (by decide) (by repeat (first | exact SelL.nil | exact SelL.self | apply SelL.cons | exact Sel.here | apply Sel.there | apply SelL.skip)) ?_
  refine WO.yld (by rfl) (wanted_plain (by rfl)) (yld_len (by rfl) (by exact Try.runUnderlying42)) (by rfl) (by decide) (by repeat (first | exact SelL.nil | exact SelL.self | apply SelL.cons | exact Sel.here | apply Sel.there | apply SelL.skip)) ?_
  refine WO.yld (by rfl) (wanted_plain (by rfl)) (yld_lss (by rfl) (by rfl)) (by rfl) (by decide) (by repeat (first | exact SelL.nil | exact SelL.self | apply SelL.cons | exact Sel.here | apply Sel.there | apply SelL.skip)) ?_
  refine WO.yld (by rfl) (wanted_plain (by rfl)) (yld_move (by rfl)) (by rfl) (by decide) (by repeat (first | exact SelL.nil | exact SelL.self | apply SelL.cons | exact Sel.here | apply Sel.there | apply SelL.skip)) ?_
  refine WO.split (d := 16) (by rfl) (fun hc16 => ?_) (fun hc16 => ?_)
  · skip
    have hc16 := of_decide_eq_true hc16
    refine WO.yld (by rfl) (wanted_some (by rfl) (by rfl) (by rfl)) (yld_move (by rfl)) (by rfl) (by decide) (by repeat (first | exact SelL.nil | exact SelL.self | apply SelL.cons | exact Sel.here | apply Sel.there | apply SelL.skip)) ?_
    refine WO.yld (by rfl) (wanted_some (by rfl) (by rfl) (by rfl)) (yld_move (by rfl)) (by rfl) (by decide) (by repeat (first | exact SelL.nil | exact SelL.self | apply SelL.cons | exact Sel.here | apply Sel.there | apply SelL.skip)) ?_
    refine WO.yld (by rfl) (wanted_some (by rfl) (by rfl) (by rfl)) (yld_nilCheck (by rfl)) (by rfl) (by decide) (by repeat (first | exact SelL.nil | exact SelL.self | apply SelL.cons | exact Sel.here | apply Sel.there | apply SelL.skip)) ?_
    refine WO.yld (by rfl) (wanted_some (by rfl) (by rfl) (by rfl)) (yld_fieldAddr (by rfl) (by exact Try.runUnderlying50) (by rfl) (by exact Try.sizeOf3) (by rfl) (by rfl)) (by rfl) (by decide) (by repeat (first | exact SelL.nil | exact SelL.self | apply SelL.cons | exact Sel.here | apply Sel.there | apply SelL.skip)) ?_
    refine WO.yld (by rfl) (wanted_some (by rfl) (by rfl) (by rfl)) (yld_load (by rfl) (by exact Try.isAgg3) (by repeat (first | exact .here | apply Sel.there)) (by rfl)) (by rfl) (by decide) (by repeat (first | exact SelL.nil | exact SelL.self | apply SelL.cons | exact Sel.here | apply Sel.there | apply SelL.skip)) ?_
    refine WO.yld (by rfl) (wanted_some (by rfl) (by rfl) (by rfl)) (yld_move (by rfl)) (by rfl) (by decide) (by repeat (first | exact SelL.nil | exact SelL.self | apply SelL.cons | exact Sel.here | apply Sel.there | apply SelL.skip)) ?_
    refine WO.yld (by rfl) (wanted_some (by rfl) (by rfl) (by rfl)) (yld_nilCheck (by rfl)) (by rfl) (by decide) (by repeat (first | exact SelL.nil | exact SelL.self | apply SelL.cons | exact Sel.here | apply Sel.there | apply SelL.skip)) ?_
    refine WO.yld (by rfl) (wanted_some (by rfl) (by rfl) (by rfl)) (yld_fieldAddr (by rfl) (by exact Try.runUnderlying50) (by rfl) (by exact Try.sizeOf3) (by rfl) (by rfl)) (by rfl) (by decide) (by repeat (first | exact SelL.nil | exact SelL.self | apply SelL.cons | exact Sel.here | apply Sel.there | apply SelL.skip)) ?_
    refine WO.yld (by rfl) (wanted_some (by rfl) (by rfl) (by rfl)) (yld_load (by rfl) (by exact Try.isAgg3) (by repeat (first | exact .here | apply Sel.there)) (by rfl)) (by rfl) (by decide) (by repeat (first | exact SelL.nil | exact SelL.self | apply SelL.cons | exact Sel.here | apply Sel.there | apply SelL.skip)) ?_
    refine WO.yld (by rfl) (wanted_some (by rfl) (by rfl) (by rfl)) (yld_add (by rfl) (by rfl) (by first | exact w64 (by omega) (by omega) | rfl)) (by rfl) (by decide) (by repeat (first | exact SelL.nil | exact SelL.self | apply SelL.cons | exact Sel.here | apply Sel.there | apply SelL.skip)) ?_
    refine WO.yld (by rfl) (wanted_some (by rfl) (by rfl) (by rfl)) (yld_lss (by rfl) (by rfl)) (by rfl) (by decide) (by repeat (first | exact SelL.nil | exact SelL.self | apply SelL.cons | exact Sel.here | apply Sel.there | apply SelL.skip)) ?_
    refine WO.yld (by rfl) (wanted_plain (by rfl)) (yld_pick_true (by rfl) (by rfl)) (by rfl) (by decide) (by repeat (first | exact SelL.nil | exact SelL.self | apply SelL.cons | exact Sel.here | apply Sel.there | apply SelL.skip)) ?_
    refine WO.done ?_
    refine WK.cond (by rfl) (fun hc28 => ?_) (fun hc28 => ?_)
    · skip
      have hc28 := of_decide_eq_true hc28
      refine WK.skip ?_
      refine WK.seq ?_
      refine WK.block ?_
      obtain ⟨b, hb⟩ : ∃ b, r.sent[a + j]? = some b := ⟨_, List.getElem?_eq_getElem (by omega)⟩
      refine WK.openS (fun w s => Sat.allByt hb (s.sel1 (A := allR (byt 5 false) svs r.sent) (by repeat (first | exact .here | apply Sel.there)))) ?_
      rintro ⟨ad5, len5, cap5⟩ ⟨hv5, hl5⟩
      dsimp only at hv5 hl5
      try dsimp only [List.cons_append, List.nil_append]
      refine WK.drawn (by kernel_rfl) [(0, 0), (1, 0), (2, 0), (3, 0), (4, 0), (5, 0), (6, 0), (7, 0), (8, 0), (9, 0), (10, 0), (11, 0), (12, 0), (13, 0), (14, 0), (15, 1), (16, 1), (17, 0)] [row true q 50 [.int .i64 r.window, .slice sad slen scap, .int .i64 r.acked, .int .i64 r.got, .slice had hlen hcap, .bool r.owing], sl true 31 1 sad slen scap svs] (by kernel_rfl) (by kernel_rfl) (by kernel_rfl) ?_
      refine WO.yld (by rfl) (wanted_plain (by rfl)) (yld_move (by rfl)) (by rfl) (by decide) (by repeat (first | exact SelL.nil | exact SelL.self | apply SelL.cons | exact Sel.here | apply Sel.there | apply SelL.skip)) ?_
      refine WO.yld (by rfl) (wanted_plain (by rfl)) (yld_move (by rfl)) (by rfl) (by decide) (by repeat (first | exact SelL.nil | exact SelL.self | apply SelL.cons | exact Sel.here | apply Sel.there | apply SelL.skip)) ?_
      refine WO.yld (by rfl) (wanted_plain (by rfl)) (yld_add (by rfl) (by rfl) (by first | exact w64 (by omega) (by omega) | rfl)) (by rfl) (by decide) (by repeat (first | exact SelL.nil | exact SelL.self | apply SelL.cons | exact Sel.here | apply Sel.there | apply SelL.skip)) ?_
      refine WO.yld (by rfl) (wanted_plain (by rfl)) (yld_move (by rfl)) (by rfl) (by decide) (by repeat (first | exact SelL.nil | exact SelL.self | apply SelL.cons | exact Sel.here | apply Sel.there | apply SelL.skip)) ?_
      refine WO.yld (by rfl) (wanted_plain (by rfl)) (yld_nilCheck (by rfl)) (by rfl) (by decide) (by repeat (first | exact SelL.nil | exact SelL.self | apply SelL.cons | exact Sel.here | apply Sel.there | apply SelL.skip)) ?_
      refine WO.yld (by rfl) (wanted_plain (by rfl)) (yld_fieldAddr (by rfl) (by exact Try.runUnderlying50) (by rfl) (by exact Try.sizeOf3) (by rfl) (by rfl)) (by rfl) (by decide) (by repeat (first | exact SelL.nil | exact SelL.self | apply SelL.cons | exact Sel.here | apply Sel.there | apply SelL.skip)) ?_
      refine WO.yld (by rfl) (wanted_plain (by rfl)) (yld_load (by rfl) (by exact Try.isAgg3) (by repeat (first | exact .here | apply Sel.there)) (by rfl)) (by rfl) (by decide) (by repeat (first | exact SelL.nil | exact SelL.self | apply SelL.cons | exact Sel.here | apply Sel.there | apply SelL.skip)) ?_
      refine WO.yld (by rfl) (wanted_plain (by rfl)) (yld_move (by rfl)) (by rfl) (by decide) (by repeat (first | exact SelL.nil | exact SelL.self | apply SelL.cons | exact Sel.here | apply Sel.there | apply SelL.skip)) ?_
      refine WO.yld (by rfl) (wanted_plain (by rfl)) (yld_nilCheck (by rfl)) (by rfl) (by decide) (by repeat (first | exact SelL.nil | exact SelL.self | apply SelL.cons | exact Sel.here | apply Sel.there | apply SelL.skip)) ?_
      refine WO.yld (by rfl) (wanted_plain (by rfl)) (yld_fieldAddr (by rfl) (by exact Try.runUnderlying50) (by rfl) (by exact Try.sizeOf42) (by rfl) (by rfl)) (by rfl) (by decide) (by repeat (first | exact SelL.nil | exact SelL.self | apply SelL.cons | exact Sel.here | apply Sel.there | apply SelL.skip)) ?_
      refine WO.yld (by rfl) (wanted_plain (by rfl)) (yld_load (by rfl) (by exact Try.isAgg42) (by repeat (first | exact .here | apply Sel.there)) (by rfl)) (by rfl) (by decide) (by repeat (first | exact SelL.nil | exact SelL.self | apply SelL.cons | exact Sel.here | apply Sel.there | apply SelL.skip)) ?_
      refine WO.yld (by rfl) (wanted_plain (by rfl)) (yld_move (by rfl)) (by rfl) (by decide) (by repeat (first | exact SelL.nil | exact SelL.self | apply SelL.cons | exact Sel.here | apply Sel.there | apply SelL.skip)) ?_
      refine WO.yld (by rfl) (wanted_plain (by rfl)) (yld_indexAddrS (by rfl) (by rfl) (by exact Try.runUnderlying42) (by exact Try.sizeOf31) (by repeat (first | exact .here | apply Sel.there)) (a + j) (by first | rfl | omega) (by omega) (by omega) (by exact Nat.mul_one _)) (by rfl) (by decide) (by repeat (first | exact SelL.nil | exact SelL.self | apply SelL.cons | exact Sel.here | apply Sel.there | apply SelL.skip)) ?_
      refine WO.yld (by rfl) (wanted_plain (by rfl)) (yld_loadS (by rfl) (by exact Try.isAgg31) (by repeat (first | exact .here | apply Sel.there)) (by exact hv5)) (by rfl) (by decide) (by repeat (first | exact SelL.nil | exact SelL.self | apply SelL.cons | exact Sel.here | apply Sel.there | apply SelL.skip)) ?_
      refine WO.yld (by rfl) (wanted_plain (by rfl)) (yld_build (by repeat (first | exact Prts.nil | apply Prts.cons | rfl)) (by exact Try.zeroValue40) (by exact Try.runUnderlying40) (by exact fun w => places40 w Try.underlying40) (by first | decide | simp) (by repeat (first | exact Fill.nil | apply Fill.cons | exact SetAts.nil | apply SetAts.cons | exact SetAt.here | apply SetAt.there | rfl))) (by rfl) (by decide) (by repeat (first | exact SelL.nil | exact SelL.self | apply SelL.cons | exact Sel.here | apply Sel.there | apply SelL.skip)) ?_
      refine WO.eff (by rfl) (wanted_plain (by rfl)) (eff_mkSlice1 (by rfl) (by rfl) (by exact Try.runUnderlying30) (by exact Try.sizeOf40) (by exact Try.zeroValue40) (by rfl) (by rfl) (by decide) (by rfl)) (by rfl) (by decide) (by intro x; repeat (first | exact SelL.nil | exact SelL.self | apply SelL.cons | exact Sel.here | apply Sel.there | apply SelL.skip)) ?_
      rintro b46 -
      try dsimp only
      refine WO.eff (by rfl) (wanted_plain (by rfl)) (eff_append (by rfl) (by rfl) (by exact elem30) (by exact Try.underlying30) (by repeat (first | exact SelL.nil | exact SelL.self | apply SelL.cons | exact Sel.here | apply Sel.there | apply SelL.skip)) (by omega) (by omega)) (by rfl) (by decide) (by intro x; repeat (first | exact SelL.nil | exact SelL.self | apply SelL.cons | exact Sel.here | apply Sel.there | apply SelL.skip)) ?_
      rintro ⟨ad47, cap47⟩ -
      try dsimp only
      refine WO.yld (by rfl) (wanted_plain (by rfl)) (yld_assign (by rfl)) (by rfl) (by decide) (by repeat (first | exact SelL.nil | exact SelL.self | apply SelL.cons | exact Sel.here | apply Sel.there | apply SelL.skip)) ?_
      refine WO.done ?_
      refine WK.endBlock ?_
      refine WK.region ?_
      refine WL.yld (wanted_plain (by rfl)) (yld_move (by rfl)) (by rfl) (by decide) ?_
      refine WL.yld (wanted_plain (by rfl)) (yld_add (by rfl) (by rfl) (by first | exact w64 (by omega) (by omega) | rfl)) (by rfl) (by decide) ?_
      refine WL.yld (wanted_plain (by rfl)) (yld_assign (by rfl)) (by rfl) (by decide) ?_
      refine WL.done ?_
      refine WK.sat (fun w s => Sat.allSnoc ((s.sel1 (A := sl false 5 1 ad5 len5 cap5 (b.map bv)) (by repeat (first | exact .here | apply Sel.there))).bytShut.sel (As := [allR (byt 5 false) vs ((r.sent.drop a).take j), byt 5 false (.slice ad5 len5 cap5) b]) (by repeat (first | exact SelL.nil | exact SelL.self | apply SelL.cons | exact Sel.here | apply Sel.there | apply SelL.skip)))) ?_
      have htk : (r.sent.drop a).take (j + 1) = (r.sent.drop a).take j ++ [b] := by rw [List.take_add_one, List.getElem?_drop, hb]; rfl
      have hpl : (pkts r.acked r.got 0 ((r.sent.drop a).take j)).length = vs.length := by rw [pkts_length, List.length_take, List.length_drop]; omega
      have hpc : pktC (pkts r.acked r.got 0 ((r.sent.drop a).take (j + 1))) (vs ++ [.slice ad5 len5 cap5]) = pktC (pkts r.acked r.got 0 ((r.sent.drop a).take j)) vs ++ [.int .i64 (((a + j : Nat) : Int) + 1), .int .i64 r.got, .slice ad5 len5 cap5] := by
        rw [htk, pkts_snoc, pktC_snoc _ _ _ _ hpl, Nat.zero_add, List.length_take, List.length_drop, Nat.min_eq_left (by omega), ha]
        rfl
      rw [← hpc, ← htk]
      exact WK.next hN (j + 1, ad47, cap47, vs ++ [.slice ad5 len5 cap5]) ⟨by dsimp only; omega, by simp [hvl]⟩ (by dsimp only; omega) (by repeat (first | exact KK.nil | refine KK.cons (by first | rfl | (simp; done)) ?_)) (by repeat (first | exact SelL.nil | exact SelL.self | apply SelL.cons | exact Sel.here | apply Sel.there | apply SelL.skip))
    · skip
      have hc28 := of_decide_eq_false hc28
      refine WK.exit ?_
      repeat (first | refine XQ.then_ ?_ | refine XQ.block (by rfl) ?_)
      refine XQ.here ?_
      refine WK.seq ?_
      refine WK.seq ?_
      refine WK.region ?_
      refine WL.yld (wanted_plain (by rfl)) (yld_move (by rfl)) (by rfl) (by decide) ?_
      refine WL.yld (wanted_plain (by rfl)) (yld_len (by rfl) (by exact Try.runUnderlying30)) (by rfl) (by decide) ?_
      refine WL.yld (wanted_plain (by rfl)) (yld_eql (by rfl) (by rfl)) (by rfl) (by decide) ?_
      refine WL.yld (wanted_plain (by rfl)) (yld_move (by rfl)) (by rfl) (by decide) ?_
      refine WL.split (d := 51) (by rfl) (fun hc51 => ?_) (fun hc51 => ?_)
      · skip
        have hc51 := of_decide_eq_true hc51
        refine WL.yld (wanted_some (by rfl) (by rfl) (by rfl)) (yld_move (by rfl)) (by rfl) (by decide) ?_
        refine WL.yld (wanted_some (by rfl) (by rfl) (by rfl)) (yld_nilCheck (by rfl)) (by rfl) (by decide) ?_
        refine WL.yld (wanted_some (by rfl) (by rfl) (by rfl)) (yld_fieldAddr (by rfl) (by exact Try.runUnderlying50) (by rfl) (by exact Try.sizeOf4) (by rfl) (by rfl)) (by rfl) (by decide) ?_
        refine WL.yld (wanted_some (by rfl) (by rfl) (by rfl)) (yld_load (by rfl) (by exact Try.isAgg4) (by repeat (first | exact .here | apply Sel.there)) (by rfl)) (by rfl) (by decide) ?_
        refine WL.yld (wanted_plain (by rfl)) (yld_pick_true (by rfl) (by rfl)) (by rfl) (by decide) ?_
        refine WL.done ?_
        refine WK.cond (by rfl) (fun hc56 => ?_) (fun hc56 => ?_)
        · skip
          refine WK.region ?_
          refine WL.yld (wanted_plain (by rfl)) (yld_move (by rfl)) (by rfl) (by decide) ?_
          refine WL.yld (wanted_plain (by rfl)) (yld_move (by rfl)) (by rfl) (by decide) ?_
          refine WL.yld (wanted_plain (by rfl)) (yld_nilCheck (by rfl)) (by rfl) (by decide) ?_
          refine WL.yld (wanted_plain (by rfl)) (yld_fieldAddr (by rfl) (by exact Try.runUnderlying50) (by rfl) (by exact Try.sizeOf3) (by rfl) (by rfl)) (by rfl) (by decide) ?_
          refine WL.yld (wanted_plain (by rfl)) (yld_load (by rfl) (by exact Try.isAgg3) (by repeat (first | exact .here | apply Sel.there)) (by rfl)) (by rfl) (by decide) ?_
          refine WL.yld (wanted_plain (by rfl)) (yld_build (by repeat (first | exact Prts.nil | apply Prts.cons | rfl)) (by exact Try.zeroValue40) (by exact Try.runUnderlying40) (by exact fun w => places40 w Try.underlying40) (by first | decide | simp) (by repeat (first | exact Fill.nil | apply Fill.cons | exact SetAts.nil | apply SetAts.cons | exact SetAt.here | apply SetAt.there | rfl))) (by rfl) (by decide) ?_
          refine WL.eff (wanted_plain (by rfl)) (eff_mkSlice1 (by rfl) (by rfl) (by exact Try.runUnderlying30) (by exact Try.sizeOf40) (by exact Try.zeroValue40) (by rfl) (by rfl) (by decide) (by rfl)) (by rfl) (by decide) ?_
          rintro b63 -
          try dsimp only
          refine WL.eff (wanted_plain (by rfl)) (eff_append (by rfl) (by rfl) (by exact elem30) (by exact Try.underlying30) (by repeat (first | exact SelL.nil | exact SelL.self | apply SelL.cons | exact Sel.here | apply Sel.there | apply SelL.skip)) (by omega) (by omega)) (by rfl) (by decide) ?_
          rintro ⟨ad64, cap64⟩ -
          try dsimp only
          refine WL.yld (wanted_plain (by rfl)) (yld_assign (by rfl)) (by rfl) (by decide) ?_
          refine WL.done ?_
          refine WK.seq ?_
          refine WK.region ?_
          refine WL.yld (wanted_plain (by rfl)) (yld_move (by rfl)) (by rfl) (by decide) ?_
          refine WL.yld (wanted_plain (by rfl)) (yld_nilCheck (by rfl)) (by rfl) (by decide) ?_
          refine WL.yld (wanted_plain (by rfl)) (yld_fieldAddr (by rfl) (by exact Try.runUnderlying50) (by rfl) (by exact Try.sizeOf4) (by rfl) (by rfl)) (by rfl) (by decide) ?_
          refine WL.eff0 (wanted_plain (by rfl)) (eff_store (by rfl) (by rfl) (by exact Try.sizeOf4) (by rfl) (by rfl) (by rfl) (by repeat (first | exact .here | apply Sel.there)) (by repeat (first | exact SetAts.nil | apply SetAts.cons | exact SetAt.here | apply SetAt.there))) (by rfl) ?_
          rintro _ -
          try dsimp only
          refine WL.done ?_
          refine WK.seq ?_
          refine WK.region ?_
          refine WL.yld (wanted_plain (by rfl)) (yld_move (by rfl)) (by rfl) (by decide) ?_
          refine WL.yld (wanted_plain (by rfl)) (yld_assign (by rfl)) (by rfl) (by decide) ?_
          refine WL.done ?_
          refine WK.ret ?_
          repeat (first | refine RQ.block ?_ | refine RQ.then_ ?_)
          refine RQ.body (results1 (by rfl) (by rfl)) (fun w s => ?_)
          have hOL : outRL r a = pkts r.acked r.got 0 ((r.sent.drop a).take j) := by
            unfold outRL
            congr 1
            rw [List.take_eq_take_iff, List.length_drop]
            omega
          obtain rfl : j = 0 := by omega
          obtain rfl : vs = [] := List.eq_nil_of_length_eq_zero hvl
          have hm : outR r a = ([⟨0, r.got, []⟩], { r with owing := false }) := by unfold outR; rw [if_pos ⟨by rw [hOL]; simp [pkts], hc56⟩]
          refine ⟨(ad64, 0 + 1, cap64, [.slice none 0 0]), ⟨by rw [hm]; rfl, rfl⟩, rfl, ?_⟩
          rw [hm]
          refine Sat.refShut ⟨sad, slen, scap, svs, had, hlen, hcap, hvs⟩ ?_
          dsimp only [refL, List.cons_append, List.nil_append]
          have s1 : Sat g w (byt 5 false (.slice none 0 0) [] :: _) := (s.nilSl false 5 1).bytShut (bs := [])
          have s2 := Sat.allCons ((s1.allNil (Rl := byt 5 false)).perm (.swap _ _ _))
          exact s2.toCs (by repeat (first | exact SelL.nil | exact SelL.self | apply SelL.cons | exact Sel.here | apply Sel.there | apply SelL.skip))
        · skip
          refine WK.skip ?_
          refine WK.seq ?_
          refine WK.region ?_
          refine WL.yld (wanted_plain (by rfl)) (yld_move (by rfl)) (by rfl) (by decide) ?_
          refine WL.yld (wanted_plain (by rfl)) (yld_nilCheck (by rfl)) (by rfl) (by decide) ?_
          refine WL.yld (wanted_plain (by rfl)) (yld_fieldAddr (by rfl) (by exact Try.runUnderlying50) (by rfl) (by exact Try.sizeOf4) (by rfl) (by rfl)) (by rfl) (by decide) ?_
          refine WL.eff0 (wanted_plain (by rfl)) (eff_store (by rfl) (by rfl) (by exact Try.sizeOf4) (by rfl) (by rfl) (by rfl) (by repeat (first | exact .here | apply Sel.there)) (by repeat (first | exact SetAts.nil | apply SetAts.cons | exact SetAt.here | apply SetAt.there))) (by rfl) ?_
          rintro _ -
          try dsimp only
          refine WL.done ?_
          refine WK.seq ?_
          refine WK.region ?_
          refine WL.yld (wanted_plain (by rfl)) (yld_move (by rfl)) (by rfl) (by decide) ?_
          refine WL.yld (wanted_plain (by rfl)) (yld_assign (by rfl)) (by rfl) (by decide) ?_
          refine WL.done ?_
          refine WK.ret ?_
          repeat (first | refine RQ.block ?_ | refine RQ.then_ ?_)
          refine RQ.body (results1 (by rfl) (by rfl)) (fun w s => ?_)
          have hOL : outRL r a = pkts r.acked r.got 0 ((r.sent.drop a).take j) := by
            unfold outRL
            congr 1
            rw [List.take_eq_take_iff, List.length_drop]
            omega
          have hm : outR r a = (outRL r a, { r with owing := false }) := by unfold outR; rw [if_neg (fun h => by rw [hc56] at h; cases h.2)]
          refine ⟨(oad, j, ocap, vs), ⟨by rw [hm, hOL, pkts_length, List.length_take, List.length_drop]; dsimp only; omega, hvl⟩, rfl, ?_⟩
          rw [hm]
          refine Sat.refShut ⟨sad, slen, scap, svs, had, hlen, hcap, hvs⟩ ?_
          dsimp only [refL, List.cons_append, List.nil_append]
          rw [hOL, pkts_b]
          exact s.toCs (by repeat (first | exact SelL.nil | exact SelL.self | apply SelL.cons | exact Sel.here | apply Sel.there | apply SelL.skip))
      · skip
        have hc51 := of_decide_eq_false hc51
        refine WL.skip (unwanted_some (by rfl) (by rfl) (by rfl) (by rfl)) (by rfl) (by decide) ?_
        refine WL.skip (unwanted_some (by rfl) (by rfl) (by rfl) (by rfl)) (by rfl) (by decide) ?_
        refine WL.skip (unwanted_some (by rfl) (by rfl) (by rfl) (by rfl)) (by rfl) (by decide) ?_
        refine WL.skip (unwanted_some (by rfl) (by rfl) (by rfl) (by rfl)) (by rfl) (by decide) ?_
        refine WL.yld (wanted_plain (by rfl)) (yld_pick_false (by rfl) (by rfl)) (by rfl) (by decide) ?_
        refine WL.done ?_
        refine WK.cond (by rfl) (fun h => by cases h) (fun _ => ?_)
        refine WK.skip ?_
        refine WK.seq ?_
        refine WK.region ?_
        refine WL.yld (wanted_plain (by rfl)) (yld_move (by rfl)) (by rfl) (by decide) ?_
        refine WL.yld (wanted_plain (by rfl)) (yld_nilCheck (by rfl)) (by rfl) (by decide) ?_
        refine WL.yld (wanted_plain (by rfl)) (yld_fieldAddr (by rfl) (by exact Try.runUnderlying50) (by rfl) (by exact Try.sizeOf4) (by rfl) (by rfl)) (by rfl) (by decide) ?_
        refine WL.eff0 (wanted_plain (by rfl)) (eff_store (by rfl) (by rfl) (by exact Try.sizeOf4) (by rfl) (by rfl) (by rfl) (by repeat (first | exact .here | apply Sel.there)) (by repeat (first | exact SetAts.nil | apply SetAts.cons | exact SetAt.here | apply SetAt.there))) (by rfl) ?_
        rintro _ -
        try dsimp only
        refine WL.done ?_
        refine WK.seq ?_
        refine WK.region ?_
        refine WL.yld (wanted_plain (by rfl)) (yld_move (by rfl)) (by rfl) (by decide) ?_
        refine WL.yld (wanted_plain (by rfl)) (yld_assign (by rfl)) (by rfl) (by decide) ?_
        refine WL.done ?_
        refine WK.ret ?_
        repeat (first | refine RQ.block ?_ | refine RQ.then_ ?_)
        refine RQ.body (results1 (by rfl) (by rfl)) (fun w s => ?_)
        have hOL : outRL r a = pkts r.acked r.got 0 ((r.sent.drop a).take j) := by
          unfold outRL
          congr 1
          rw [List.take_eq_take_iff, List.length_drop]
          omega
        have hm : outR r a = (outRL r a, { r with owing := false }) := by unfold outR; rw [if_neg (fun h => by have := congrArg List.length (hOL ▸ h.1); rw [pkts_length, List.length_take, List.length_drop] at this; simp only [List.length_nil] at this; omega)]
        refine ⟨(oad, j, ocap, vs), ⟨by rw [hm, hOL, pkts_length, List.length_take, List.length_drop]; dsimp only; omega, hvl⟩, rfl, ?_⟩
        rw [hm]
        refine Sat.refShut ⟨sad, slen, scap, svs, had, hlen, hcap, hvs⟩ ?_
        dsimp only [refL, List.cons_append, List.nil_append]
        rw [hOL, pkts_b]
        exact s.toCs (by repeat (first | exact SelL.nil | exact SelL.self | apply SelL.cons | exact Sel.here | apply Sel.there | apply SelL.skip))
  · skip
    have hc16 := of_decide_eq_false hc16
    refine WO.skip (by rfl) (unwanted_some (by rfl) (by rfl) (by rfl) (by rfl)) (by rfl) (by decide) (by repeat (first | exact SelL.nil | exact SelL.self | apply SelL.cons | exact Sel.here | apply Sel.there | apply SelL.skip)) ?_
    refine WO.skip (by rfl) (unwanted_some (by rfl) (by rfl) (by rfl) (by rfl)) (by rfl) (by decide) (by repeat (first | exact SelL.nil | exact SelL.self | apply SelL.cons | exact Sel.here | apply Sel.there | apply SelL.skip)) ?_
    refine WO.skip (by rfl) (unwanted_some (by rfl) (by rfl) (by rfl) (by rfl)) (by rfl) (by decide) (by repeat (first | exact SelL.nil | exact SelL.self | apply SelL.cons | exact Sel.here | apply Sel.there | apply SelL.skip)) ?_
    refine WO.skip (by rfl) (unwanted_some (by rfl) (by rfl) (by rfl) (by rfl)) (by rfl) (by decide) (by repeat (first | exact SelL.nil | exact SelL.self | apply SelL.cons | exact Sel.here | apply Sel.there | apply SelL.skip)) ?_
    refine WO.skip (by rfl) (unwanted_some (by rfl) (by rfl) (by rfl) (by rfl)) (by rfl) (by decide) (by repeat (first | exact SelL.nil | exact SelL.self | apply SelL.cons | exact Sel.here | apply Sel.there | apply SelL.skip)) ?_
    refine WO.skip (by rfl) (unwanted_some (by rfl) (by rfl) (by rfl) (by rfl)) (by rfl) (by decide) (by repeat (first | exact SelL.nil | exact SelL.self | apply SelL.cons | exact Sel.here | apply Sel.there | apply SelL.skip)) ?_
    refine WO.skip (by rfl) (unwanted_some (by rfl) (by rfl) (by rfl) (by rfl)) (by rfl) (by decide) (by repeat (first | exact SelL.nil | exact SelL.self | apply SelL.cons | exact Sel.here | apply Sel.there | apply SelL.skip)) ?_
    refine WO.skip (by rfl) (unwanted_some (by rfl) (by rfl) (by rfl) (by rfl)) (by rfl) (by decide) (by repeat (first | exact SelL.nil | exact SelL.self | apply SelL.cons | exact Sel.here | apply Sel.there | apply SelL.skip)) ?_
    refine WO.skip (by rfl) (unwanted_some (by rfl) (by rfl) (by rfl) (by rfl)) (by rfl) (by decide) (by repeat (first | exact SelL.nil | exact SelL.self | apply SelL.cons | exact Sel.here | apply Sel.there | apply SelL.skip)) ?_
    refine WO.skip (by rfl) (unwanted_some (by rfl) (by rfl) (by rfl) (by rfl)) (by rfl) (by decide) (by repeat (first | exact SelL.nil | exact SelL.self | apply SelL.cons | exact Sel.here | apply Sel.there | apply SelL.skip)) ?_
    refine WO.skip (by rfl) (unwanted_some (by rfl) (by rfl) (by rfl) (by rfl)) (by rfl) (by decide) (by repeat (first | exact SelL.nil | exact SelL.self | apply SelL.cons | exact Sel.here | apply Sel.there | apply SelL.skip)) ?_
    refine WO.yld (by rfl) (wanted_plain (by rfl)) (yld_pick_false (by rfl) (by rfl)) (by rfl) (by decide) (by repeat (first | exact SelL.nil | exact SelL.self | apply SelL.cons | exact Sel.here | apply Sel.there | apply SelL.skip)) ?_
    refine WO.done ?_
    refine WK.cond (by rfl) (fun h => by cases h) (fun _ => ?_)
    refine WK.exit ?_
    repeat (first | refine XQ.then_ ?_ | refine XQ.block (by rfl) ?_)
    refine XQ.here ?_
    refine WK.seq ?_
    refine WK.seq ?_
    refine WK.region ?_
    refine WL.yld (wanted_plain (by rfl)) (yld_move (by rfl)) (by rfl) (by decide) ?_
    refine WL.yld (wanted_plain (by rfl)) (yld_len (by rfl) (by exact Try.runUnderlying30)) (by rfl) (by decide) ?_
    refine WL.yld (wanted_plain (by rfl)) (yld_eql (by rfl) (by rfl)) (by rfl) (by decide) ?_
    refine WL.yld (wanted_plain (by rfl)) (yld_move (by rfl)) (by rfl) (by decide) ?_
    refine WL.split (d := 51) (by rfl) (fun hc51 => ?_) (fun hc51 => ?_)
    · skip
      have hc51 := of_decide_eq_true hc51
      refine WL.yld (wanted_some (by rfl) (by rfl) (by rfl)) (yld_move (by rfl)) (by rfl) (by decide) ?_
      refine WL.yld (wanted_some (by rfl) (by rfl) (by rfl)) (yld_nilCheck (by rfl)) (by rfl) (by decide) ?_
      refine WL.yld (wanted_some (by rfl) (by rfl) (by rfl)) (yld_fieldAddr (by rfl) (by exact Try.runUnderlying50) (by rfl) (by exact Try.sizeOf4) (by rfl) (by rfl)) (by rfl) (by decide) ?_
      refine WL.yld (wanted_some (by rfl) (by rfl) (by rfl)) (yld_load (by rfl) (by exact Try.isAgg4) (by repeat (first | exact .here | apply Sel.there)) (by rfl)) (by rfl) (by decide) ?_
      refine WL.yld (wanted_plain (by rfl)) (yld_pick_true (by rfl) (by rfl)) (by rfl) (by decide) ?_
      refine WL.done ?_
      refine WK.cond (by rfl) (fun hc56 => ?_) (fun hc56 => ?_)
      · skip
        refine WK.region ?_
        refine WL.yld (wanted_plain (by rfl)) (yld_move (by rfl)) (by rfl) (by decide) ?_
        refine WL.yld (wanted_plain (by rfl)) (yld_move (by rfl)) (by rfl) (by decide) ?_
        refine WL.yld (wanted_plain (by rfl)) (yld_nilCheck (by rfl)) (by rfl) (by decide) ?_
        refine WL.yld (wanted_plain (by rfl)) (yld_fieldAddr (by rfl) (by exact Try.runUnderlying50) (by rfl) (by exact Try.sizeOf3) (by rfl) (by rfl)) (by rfl) (by decide) ?_
        refine WL.yld (wanted_plain (by rfl)) (yld_load (by rfl) (by exact Try.isAgg3) (by repeat (first | exact .here | apply Sel.there)) (by rfl)) (by rfl) (by decide) ?_
        refine WL.yld (wanted_plain (by rfl)) (yld_build (by repeat (first | exact Prts.nil | apply Prts.cons | rfl)) (by exact Try.zeroValue40) (by exact Try.runUnderlying40) (by exact fun w => places40 w Try.underlying40) (by first | decide | simp) (by repeat (first | exact Fill.nil | apply Fill.cons | exact SetAts.nil | apply SetAts.cons | exact SetAt.here | apply SetAt.there | rfl))) (by rfl) (by decide) ?_
        refine WL.eff (wanted_plain (by rfl)) (eff_mkSlice1 (by rfl) (by rfl) (by exact Try.runUnderlying30) (by exact Try.sizeOf40) (by exact Try.zeroValue40) (by rfl) (by rfl) (by decide) (by rfl)) (by rfl) (by decide) ?_
        rintro b63 -
        try dsimp only
        refine WL.eff (wanted_plain (by rfl)) (eff_append (by rfl) (by rfl) (by exact elem30) (by exact Try.underlying30) (by repeat (first | exact SelL.nil | exact SelL.self | apply SelL.cons | exact Sel.here | apply Sel.there | apply SelL.skip)) (by omega) (by omega)) (by rfl) (by decide) ?_
        rintro ⟨ad64, cap64⟩ -
        try dsimp only
        refine WL.yld (wanted_plain (by rfl)) (yld_assign (by rfl)) (by rfl) (by decide) ?_
        refine WL.done ?_
        refine WK.seq ?_
        refine WK.region ?_
        refine WL.yld (wanted_plain (by rfl)) (yld_move (by rfl)) (by rfl) (by decide) ?_
        refine WL.yld (wanted_plain (by rfl)) (yld_nilCheck (by rfl)) (by rfl) (by decide) ?_
        refine WL.yld (wanted_plain (by rfl)) (yld_fieldAddr (by rfl) (by exact Try.runUnderlying50) (by rfl) (by exact Try.sizeOf4) (by rfl) (by rfl)) (by rfl) (by decide) ?_
        refine WL.eff0 (wanted_plain (by rfl)) (eff_store (by rfl) (by rfl) (by exact Try.sizeOf4) (by rfl) (by rfl) (by rfl) (by repeat (first | exact .here | apply Sel.there)) (by repeat (first | exact SetAts.nil | apply SetAts.cons | exact SetAt.here | apply SetAt.there))) (by rfl) ?_
        rintro _ -
        try dsimp only
        refine WL.done ?_
        refine WK.seq ?_
        refine WK.region ?_
        refine WL.yld (wanted_plain (by rfl)) (yld_move (by rfl)) (by rfl) (by decide) ?_
        refine WL.yld (wanted_plain (by rfl)) (yld_assign (by rfl)) (by rfl) (by decide) ?_
        refine WL.done ?_
        refine WK.ret ?_
        repeat (first | refine RQ.block ?_ | refine RQ.then_ ?_)
        refine RQ.body (results1 (by rfl) (by rfl)) (fun w s => ?_)
        have hOL : outRL r a = pkts r.acked r.got 0 ((r.sent.drop a).take j) := by
          unfold outRL
          congr 1
          rw [List.take_eq_take_iff, List.length_drop]
          omega
        obtain rfl : j = 0 := by omega
        obtain rfl : vs = [] := List.eq_nil_of_length_eq_zero hvl
        have hm : outR r a = ([⟨0, r.got, []⟩], { r with owing := false }) := by unfold outR; rw [if_pos ⟨by rw [hOL]; simp [pkts], hc56⟩]
        refine ⟨(ad64, 0 + 1, cap64, [.slice none 0 0]), ⟨by rw [hm]; rfl, rfl⟩, rfl, ?_⟩
        rw [hm]
        refine Sat.refShut ⟨sad, slen, scap, svs, had, hlen, hcap, hvs⟩ ?_
        dsimp only [refL, List.cons_append, List.nil_append]
        have s1 : Sat g w (byt 5 false (.slice none 0 0) [] :: _) := (s.nilSl false 5 1).bytShut (bs := [])
        have s2 := Sat.allCons ((s1.allNil (Rl := byt 5 false)).perm (.swap _ _ _))
        exact s2.toCs (by repeat (first | exact SelL.nil | exact SelL.self | apply SelL.cons | exact Sel.here | apply Sel.there | apply SelL.skip))
      · skip
        refine WK.skip ?_
        refine WK.seq ?_
        refine WK.region ?_
        refine WL.yld (wanted_plain (by rfl)) (yld_move (by rfl)) (by rfl) (by decide) ?_
        refine WL.yld (wanted_plain (by rfl)) (yld_nilCheck (by rfl)) (by rfl) (by decide) ?_
        refine WL.yld (wanted_plain (by rfl)) (yld_fieldAddr (by rfl) (by exact Try.runUnderlying50) (by rfl) (by exact Try.sizeOf4) (by rfl) (by rfl)) (by rfl) (by decide) ?_
        refine WL.eff0 (wanted_plain (by rfl)) (eff_store (by rfl) (by rfl) (by exact Try.sizeOf4) (by rfl) (by rfl) (by rfl) (by repeat (first | exact .here | apply Sel.there)) (by repeat (first | exact SetAts.nil | apply SetAts.cons | exact SetAt.here | apply SetAt.there))) (by rfl) ?_
        rintro _ -
        try dsimp only
        refine WL.done ?_
        refine WK.seq ?_
        refine WK.region ?_
        refine WL.yld (wanted_plain (by rfl)) (yld_move (by rfl)) (by rfl) (by decide) ?_
        refine WL.yld (wanted_plain (by rfl)) (yld_assign (by rfl)) (by rfl) (by decide) ?_
        refine WL.done ?_
        refine WK.ret ?_
        repeat (first | refine RQ.block ?_ | refine RQ.then_ ?_)
        refine RQ.body (results1 (by rfl) (by rfl)) (fun w s => ?_)
        have hOL : outRL r a = pkts r.acked r.got 0 ((r.sent.drop a).take j) := by
          unfold outRL
          congr 1
          rw [List.take_eq_take_iff, List.length_drop]
          omega
        have hm : outR r a = (outRL r a, { r with owing := false }) := by unfold outR; rw [if_neg (fun h => by rw [hc56] at h; cases h.2)]
        refine ⟨(oad, j, ocap, vs), ⟨by rw [hm, hOL, pkts_length, List.length_take, List.length_drop]; dsimp only; omega, hvl⟩, rfl, ?_⟩
        rw [hm]
        refine Sat.refShut ⟨sad, slen, scap, svs, had, hlen, hcap, hvs⟩ ?_
        dsimp only [refL, List.cons_append, List.nil_append]
        rw [hOL, pkts_b]
        exact s.toCs (by repeat (first | exact SelL.nil | exact SelL.self | apply SelL.cons | exact Sel.here | apply Sel.there | apply SelL.skip))
    · skip
      have hc51 := of_decide_eq_false hc51
      refine WL.skip (unwanted_some (by rfl) (by rfl) (by rfl) (by rfl)) (by rfl) (by decide) ?_
      refine WL.skip (unwanted_some (by rfl) (by rfl) (by rfl) (by rfl)) (by rfl) (by decide) ?_
      refine WL.skip (unwanted_some (by rfl) (by rfl) (by rfl) (by rfl)) (by rfl) (by decide) ?_
      refine WL.skip (unwanted_some (by rfl) (by rfl) (by rfl) (by rfl)) (by rfl) (by decide) ?_
      refine WL.yld (wanted_plain (by rfl)) (yld_pick_false (by rfl) (by rfl)) (by rfl) (by decide) ?_
      refine WL.done ?_
      refine WK.cond (by rfl) (fun h => by cases h) (fun _ => ?_)
      refine WK.skip ?_
      refine WK.seq ?_
      refine WK.region ?_
      refine WL.yld (wanted_plain (by rfl)) (yld_move (by rfl)) (by rfl) (by decide) ?_
      refine WL.yld (wanted_plain (by rfl)) (yld_nilCheck (by rfl)) (by rfl) (by decide) ?_
      refine WL.yld (wanted_plain (by rfl)) (yld_fieldAddr (by rfl) (by exact Try.runUnderlying50) (by rfl) (by exact Try.sizeOf4) (by rfl) (by rfl)) (by rfl) (by decide) ?_
      refine WL.eff0 (wanted_plain (by rfl)) (eff_store (by rfl) (by rfl) (by exact Try.sizeOf4) (by rfl) (by rfl) (by rfl) (by repeat (first | exact .here | apply Sel.there)) (by repeat (first | exact SetAts.nil | apply SetAts.cons | exact SetAt.here | apply SetAt.there))) (by rfl) ?_
      rintro _ -
      try dsimp only
      refine WL.done ?_
      refine WK.seq ?_
      refine WK.region ?_
      refine WL.yld (wanted_plain (by rfl)) (yld_move (by rfl)) (by rfl) (by decide) ?_
      refine WL.yld (wanted_plain (by rfl)) (yld_assign (by rfl)) (by rfl) (by decide) ?_
      refine WL.done ?_
      refine WK.ret ?_
      repeat (first | refine RQ.block ?_ | refine RQ.then_ ?_)
      refine RQ.body (results1 (by rfl) (by rfl)) (fun w s => ?_)
      have hOL : outRL r a = pkts r.acked r.got 0 ((r.sent.drop a).take j) := by
        unfold outRL
        congr 1
        rw [List.take_eq_take_iff, List.length_drop]
        omega
      have hm : outR r a = (outRL r a, { r with owing := false }) := by unfold outR; rw [if_neg (fun h => by have := congrArg List.length (hOL ▸ h.1); rw [pkts_length, List.length_take, List.length_drop] at this; simp only [List.length_nil] at this; omega)]
      refine ⟨(oad, j, ocap, vs), ⟨by rw [hm, hOL, pkts_length, List.length_take, List.length_drop]; dsimp only; omega, hvl⟩, rfl, ?_⟩
      rw [hm]
      refine Sat.refShut ⟨sad, slen, scap, svs, had, hlen, hcap, hvs⟩ ?_
      dsimp only [refL, List.cons_append, List.nil_append]
      rw [hOL, pkts_b]
      exact s.toCs (by repeat (first | exact SelL.nil | exact SelL.self | apply SelL.cons | exact Sel.here | apply Sel.there | apply SelL.skip))
set_option maxRecDepth 20000 in
set_option maxHeartbeats 1000000 in
theorem refValid_spec (x y : Int) (ad : Option Addr) (len cap : Nat) :
    Triple Try.prog 45 #[.agg #[.int .i64 x, .int .i64 y, .slice ad len cap]] [] (Unit) (fun _ => True) (fun _ => .bool (validB x y len)) (fun _ => []) := by
  refine Triple.of_body (args := [.agg #[.int .i64 x, .int .i64 y, .slice ad len cap]]) Try.func45 rfl Try.ntmps45 (by simp) (fun g F => ?_)
  dsimp only [numb, List.cons_append, List.nil_append]
  refine WK.seq ?_
  refine WK.region ?_
  refine WL.eff (wanted_plain (by rfl)) (eff_box (by rfl) (by rfl)) (by rfl) (by decide) ?_
  rintro b1 -
  try dsimp only
  refine WL.yld (wanted_plain (by rfl)) (yld_assign (by rfl)) (by rfl) (by decide) ?_
  refine WL.done ?_
  refine WK.seq ?_
  refine WK.region ?_
  refine WL.yld (wanted_plain (by rfl)) (yld_fieldAddr (by rfl) (by exact Try.runUnderlying40) (by rfl) (by exact Try.sizeOf3) (by rfl) (by rfl)) (by rfl) (by decide) ?_
  refine WL.yld (wanted_plain (by rfl)) (yld_load (by rfl) (by exact Try.isAgg3) (by repeat (first | exact .here | apply Sel.there)) (by rfl)) (by rfl) (by decide) ?_
  refine WL.yld (wanted_plain (by rfl)) (yld_geq (by rfl) (by rfl)) (by rfl) (by decide) ?_
  refine WL.yld (wanted_plain (by rfl)) (yld_move (by rfl)) (by rfl) (by decide) ?_
  refine WL.split (d := 6) (by rfl) (fun hc6 => ?_) (fun hc6 => ?_)
  · skip
    have hc6 := of_decide_eq_true hc6
    refine WL.yld (wanted_some (by rfl) (by rfl) (by rfl)) (yld_fieldAddr (by rfl) (by exact Try.runUnderlying40) (by rfl) (by exact Try.sizeOf3) (by rfl) (by rfl)) (by rfl) (by decide) ?_
    refine WL.yld (wanted_some (by rfl) (by rfl) (by rfl)) (yld_load (by rfl) (by exact Try.isAgg3) (by repeat (first | exact .here | apply Sel.there)) (by rfl)) (by rfl) (by decide) ?_
    refine WL.yld (wanted_some (by rfl) (by rfl) (by rfl)) (yld_geq (by rfl) (by rfl)) (by rfl) (by decide) ?_
    refine WL.yld (wanted_plain (by rfl)) (yld_pick_true (by rfl) (by rfl)) (by rfl) (by decide) ?_
    refine WL.yld (wanted_plain (by rfl)) (yld_move (by rfl)) (by rfl) (by decide) ?_
    refine WL.split (d := 11) (by rfl) (fun hc11 => ?_) (fun hc11 => ?_)
    · skip
      have hc11 := of_decide_eq_true hc11
      refine WL.yld (wanted_some (by rfl) (by rfl) (by rfl)) (yld_fieldAddr (by rfl) (by exact Try.runUnderlying40) (by rfl) (by exact Try.sizeOf31) (by rfl) (by rfl)) (by rfl) (by decide) ?_
      refine WL.yld (wanted_some (by rfl) (by rfl) (by rfl)) (yld_load (by rfl) (by exact Try.isAgg31) (by repeat (first | exact .here | apply Sel.there)) (by rfl)) (by rfl) (by decide) ?_
      refine WL.yld (wanted_some (by rfl) (by rfl) (by rfl)) (yld_len (by rfl) (by exact Try.runUnderlying31)) (by rfl) (by decide) ?_
      refine WL.yld (wanted_some (by rfl) (by rfl) (by rfl)) (yld_leq (by rfl) (by rfl)) (by rfl) (by decide) ?_
      refine WL.yld (wanted_plain (by rfl)) (yld_pick_true (by rfl) (by rfl)) (by rfl) (by decide) ?_
      refine WL.yld (wanted_plain (by rfl)) (yld_move (by rfl)) (by rfl) (by decide) ?_
      refine WL.split (d := 17) (by rfl) (fun hc17 => ?_) (fun hc17 => ?_)
      · skip
        have hc17 := of_decide_eq_true hc17
        refine WL.yld (wanted_some (by rfl) (by rfl) (by rfl)) (yld_fieldAddr (by rfl) (by exact Try.runUnderlying40) (by rfl) (by exact Try.sizeOf3) (by rfl) (by rfl)) (by rfl) (by decide) ?_
        refine WL.yld (wanted_some (by rfl) (by rfl) (by rfl)) (yld_load (by rfl) (by exact Try.isAgg3) (by repeat (first | exact .here | apply Sel.there)) (by rfl)) (by rfl) (by decide) ?_
        refine WL.yld (wanted_some (by rfl) (by rfl) (by rfl)) (yld_gtr (by rfl) (by rfl)) (by rfl) (by decide) ?_
        refine WL.yld (wanted_some (by rfl) (by rfl) (by rfl)) (yld_move (by rfl)) (by rfl) (by decide) ?_
        refine WL.split (d := 21) (by rfl) (fun hc21 => ?_) (fun hc21 => ?_)
        · skip
          have hc21 := of_decide_eq_true hc21
          refine WL.skip (unwanted_some (by rfl) (by rfl) (by rfl) (by rfl)) (by rfl) (by decide) ?_
          refine WL.skip (unwanted_some (by rfl) (by rfl) (by rfl) (by rfl)) (by rfl) (by decide) ?_
          refine WL.skip (unwanted_some (by rfl) (by rfl) (by rfl) (by rfl)) (by rfl) (by decide) ?_
          refine WL.skip (unwanted_some (by rfl) (by rfl) (by rfl) (by rfl)) (by rfl) (by decide) ?_
          refine WL.yld (wanted_some (by rfl) (by rfl) (by rfl)) (yld_pick_true (by rfl) (by rfl)) (by rfl) (by decide) ?_
          refine WL.yld (wanted_plain (by rfl)) (yld_pick_true (by rfl) (by rfl)) (by rfl) (by decide) ?_
          refine WL.yld (wanted_plain (by rfl)) (yld_assign (by rfl)) (by rfl) (by decide) ?_
          refine WL.done ?_
          refine WK.ret ?_
          repeat (first | refine RQ.block ?_ | refine RQ.then_ ?_)
          refine RQ.body (results1 (by rfl) (by rfl)) (fun w s => ?_)
          exact ⟨(), trivial, by unfold validB; simp [*] <;> omega, s.drop (l := [_])⟩
        · skip
          have hc21 := of_decide_eq_false hc21
          refine WL.yld (wanted_some (by rfl) (by rfl) (by rfl)) (yld_fieldAddr (by rfl) (by exact Try.runUnderlying40) (by rfl) (by exact Try.sizeOf31) (by rfl) (by rfl)) (by rfl) (by decide) ?_
          refine WL.yld (wanted_some (by rfl) (by rfl) (by rfl)) (yld_load (by rfl) (by exact Try.isAgg31) (by repeat (first | exact .here | apply Sel.there)) (by rfl)) (by rfl) (by decide) ?_
          refine WL.yld (wanted_some (by rfl) (by rfl) (by rfl)) (yld_len (by rfl) (by exact Try.runUnderlying31)) (by rfl) (by decide) ?_
          refine WL.yld (wanted_some (by rfl) (by rfl) (by rfl)) (yld_eql (by rfl) (by rfl)) (by rfl) (by decide) ?_
          refine WL.yld (wanted_some (by rfl) (by rfl) (by rfl)) (yld_pick_false (by rfl) (by rfl)) (by rfl) (by decide) ?_
          refine WL.yld (wanted_plain (by rfl)) (yld_pick_true (by rfl) (by rfl)) (by rfl) (by decide) ?_
          refine WL.yld (wanted_plain (by rfl)) (yld_assign (by rfl)) (by rfl) (by decide) ?_
          refine WL.done ?_
          refine WK.ret ?_
          repeat (first | refine RQ.block ?_ | refine RQ.then_ ?_)
          refine RQ.body (results1 (by rfl) (by rfl)) (fun w s => ?_)
          exact ⟨(), trivial, by unfold validB; simp [*] <;> omega, s.drop (l := [_])⟩
      · skip
        have hc17 := of_decide_eq_false hc17
        refine WL.skip (unwanted_some (by rfl) (by rfl) (by rfl) (by rfl)) (by rfl) (by decide) ?_
        refine WL.skip (unwanted_some (by rfl) (by rfl) (by rfl) (by rfl)) (by rfl) (by decide) ?_
        refine WL.skip (unwanted_some (by rfl) (by rfl) (by rfl) (by rfl)) (by rfl) (by decide) ?_
        refine WL.skip (unwanted_some (by rfl) (by rfl) (by rfl) (by rfl)) (by rfl) (by decide) ?_
        refine WL.skip (unwanted_undef (by rfl) (by rfl) (by rfl)) (by rfl) (by decide) ?_
        refine WL.skip (unwanted_undef (by rfl) (by rfl) (by rfl)) (by rfl) (by decide) ?_
        refine WL.skip (unwanted_undef (by rfl) (by rfl) (by rfl)) (by rfl) (by decide) ?_
        refine WL.skip (unwanted_undef (by rfl) (by rfl) (by rfl)) (by rfl) (by decide) ?_
        refine WL.skip (unwanted_some (by rfl) (by rfl) (by rfl) (by rfl)) (by rfl) (by decide) ?_
        refine WL.yld (wanted_plain (by rfl)) (yld_pick_false (by rfl) (by rfl)) (by rfl) (by decide) ?_
        refine WL.yld (wanted_plain (by rfl)) (yld_assign (by rfl)) (by rfl) (by decide) ?_
        refine WL.done ?_
        refine WK.ret ?_
        repeat (first | refine RQ.block ?_ | refine RQ.then_ ?_)
        refine RQ.body (results1 (by rfl) (by rfl)) (fun w s => ?_)
        exact ⟨(), trivial, by unfold validB; simp [*] <;> omega, s.drop (l := [_])⟩
    · skip
      have hc11 := of_decide_eq_false hc11
      refine WL.skip (unwanted_some (by rfl) (by rfl) (by rfl) (by rfl)) (by rfl) (by decide) ?_
      refine WL.skip (unwanted_some (by rfl) (by rfl) (by rfl) (by rfl)) (by rfl) (by decide) ?_
      refine WL.skip (unwanted_some (by rfl) (by rfl) (by rfl) (by rfl)) (by rfl) (by decide) ?_
      refine WL.skip (unwanted_some (by rfl) (by rfl) (by rfl) (by rfl)) (by rfl) (by decide) ?_
      refine WL.yld (wanted_plain (by rfl)) (yld_pick_false (by rfl) (by rfl)) (by rfl) (by decide) ?_
      refine WL.yld (wanted_plain (by rfl)) (yld_move (by rfl)) (by rfl) (by decide) ?_
      refine WL.skip (unwanted_some (by rfl) (by rfl) (by rfl) (by rfl)) (by rfl) (by decide) ?_
      refine WL.skip (unwanted_some (by rfl) (by rfl) (by rfl) (by rfl)) (by rfl) (by decide) ?_
      refine WL.skip (unwanted_some (by rfl) (by rfl) (by rfl) (by rfl)) (by rfl) (by decide) ?_
      refine WL.skip (unwanted_some (by rfl) (by rfl) (by rfl) (by rfl)) (by rfl) (by decide) ?_
      refine WL.skip (unwanted_undef (by rfl) (by rfl) (by rfl)) (by rfl) (by decide) ?_
      refine WL.skip (unwanted_undef (by rfl) (by rfl) (by rfl)) (by rfl) (by decide) ?_
      refine WL.skip (unwanted_undef (by rfl) (by rfl) (by rfl)) (by rfl) (by decide) ?_
      refine WL.skip (unwanted_undef (by rfl) (by rfl) (by rfl)) (by rfl) (by decide) ?_
      refine WL.skip (unwanted_some (by rfl) (by rfl) (by rfl) (by rfl)) (by rfl) (by decide) ?_
      refine WL.yld (wanted_plain (by rfl)) (yld_pick_false (by rfl) (by rfl)) (by rfl) (by decide) ?_
      refine WL.yld (wanted_plain (by rfl)) (yld_assign (by rfl)) (by rfl) (by decide) ?_
      refine WL.done ?_
      refine WK.ret ?_
      repeat (first | refine RQ.block ?_ | refine RQ.then_ ?_)
      refine RQ.body (results1 (by rfl) (by rfl)) (fun w s => ?_)
      exact ⟨(), trivial, by unfold validB; simp [*] <;> omega, s.drop (l := [_])⟩
  · skip
    have hc6 := of_decide_eq_false hc6
    refine WL.skip (unwanted_some (by rfl) (by rfl) (by rfl) (by rfl)) (by rfl) (by decide) ?_
    refine WL.skip (unwanted_some (by rfl) (by rfl) (by rfl) (by rfl)) (by rfl) (by decide) ?_
    refine WL.skip (unwanted_some (by rfl) (by rfl) (by rfl) (by rfl)) (by rfl) (by decide) ?_
    refine WL.yld (wanted_plain (by rfl)) (yld_pick_false (by rfl) (by rfl)) (by rfl) (by decide) ?_
    refine WL.yld (wanted_plain (by rfl)) (yld_move (by rfl)) (by rfl) (by decide) ?_
    refine WL.skip (unwanted_some (by rfl) (by rfl) (by rfl) (by rfl)) (by rfl) (by decide) ?_
    refine WL.skip (unwanted_some (by rfl) (by rfl) (by rfl) (by rfl)) (by rfl) (by decide) ?_
    refine WL.skip (unwanted_some (by rfl) (by rfl) (by rfl) (by rfl)) (by rfl) (by decide) ?_
    refine WL.skip (unwanted_some (by rfl) (by rfl) (by rfl) (by rfl)) (by rfl) (by decide) ?_
    refine WL.yld (wanted_plain (by rfl)) (yld_pick_false (by rfl) (by rfl)) (by rfl) (by decide) ?_
    refine WL.yld (wanted_plain (by rfl)) (yld_move (by rfl)) (by rfl) (by decide) ?_
    refine WL.skip (unwanted_some (by rfl) (by rfl) (by rfl) (by rfl)) (by rfl) (by decide) ?_
    refine WL.skip (unwanted_some (by rfl) (by rfl) (by rfl) (by rfl)) (by rfl) (by decide) ?_
    refine WL.skip (unwanted_some (by rfl) (by rfl) (by rfl) (by rfl)) (by rfl) (by decide) ?_
    refine WL.skip (unwanted_some (by rfl) (by rfl) (by rfl) (by rfl)) (by rfl) (by decide) ?_
    refine WL.skip (unwanted_undef (by rfl) (by rfl) (by rfl)) (by rfl) (by decide) ?_
    refine WL.skip (unwanted_undef (by rfl) (by rfl) (by rfl)) (by rfl) (by decide) ?_
    refine WL.skip (unwanted_undef (by rfl) (by rfl) (by rfl)) (by rfl) (by decide) ?_
    refine WL.skip (unwanted_undef (by rfl) (by rfl) (by rfl)) (by rfl) (by decide) ?_
    refine WL.skip (unwanted_some (by rfl) (by rfl) (by rfl) (by rfl)) (by rfl) (by decide) ?_
    refine WL.yld (wanted_plain (by rfl)) (yld_pick_false (by rfl) (by rfl)) (by rfl) (by decide) ?_
    refine WL.yld (wanted_plain (by rfl)) (yld_assign (by rfl)) (by rfl) (by decide) ?_
    refine WL.done ?_
    refine WK.ret ?_
    repeat (first | refine RQ.block ?_ | refine RQ.then_ ?_)
    refine RQ.body (results1 (by rfl) (by rfl)) (fun w s => ?_)
    exact ⟨(), trivial, by unfold validB; simp [*] <;> omega, s.drop (l := [_])⟩
set_option maxRecDepth 20000 in
set_option maxHeartbeats 1000000 in
theorem of_spec (x y : Int) (ad : Option Addr) (len cap : Nat) :
    Triple Try.prog 20 #[.agg #[.int .i64 x, .int .i64 y, .slice ad len cap]] [] (Unit) (fun _ => True) (fun _ => .agg #[.int .i64 x, .int .i64 y, .slice ad len cap]) (fun _ => []) := by
  refine Triple.of_body (args := [.agg #[.int .i64 x, .int .i64 y, .slice ad len cap]]) Try.func20 rfl Try.ntmps20 (by simp) (fun g F => ?_)
  dsimp only [numb, List.cons_append, List.nil_append]
  refine WK.seq ?_
  refine WK.region ?_
  refine WL.eff (wanted_plain (by rfl)) (eff_box (by rfl) (by rfl)) (by rfl) (by decide) ?_
  rintro b1 -
  try dsimp only
  refine WL.eff (wanted_plain (by rfl)) (eff_alloc (by exact Try.zeroValue44) (by rfl)) (by rfl) (by decide) ?_
  rintro b2 -
  try dsimp only
  refine WL.done ?_
  refine WK.seq ?_
  refine WK.region ?_
  refine WL.yld (wanted_plain (by rfl)) (yld_fieldAddr (by rfl) (by exact Try.runUnderlying40) (by rfl) (by exact Try.sizeOf3) (by rfl) (by rfl)) (by rfl) (by decide) ?_
  refine WL.yld (wanted_plain (by rfl)) (yld_load (by rfl) (by exact Try.isAgg3) (by repeat (first | exact .here | apply Sel.there)) (by rfl)) (by rfl) (by decide) ?_
  refine WL.yld (wanted_plain (by rfl)) (yld_fieldAddr (by rfl) (by exact Try.runUnderlying40) (by rfl) (by exact Try.sizeOf3) (by rfl) (by rfl)) (by rfl) (by decide) ?_
  refine WL.yld (wanted_plain (by rfl)) (yld_load (by rfl) (by exact Try.isAgg3) (by repeat (first | exact .here | apply Sel.there)) (by rfl)) (by rfl) (by decide) ?_
  refine WL.yld (wanted_plain (by rfl)) (yld_fieldAddr (by rfl) (by exact Try.runUnderlying40) (by rfl) (by exact Try.sizeOf31) (by rfl) (by rfl)) (by rfl) (by decide) ?_
  refine WL.yld (wanted_plain (by rfl)) (yld_load (by rfl) (by exact Try.isAgg31) (by repeat (first | exact .here | apply Sel.there)) (by rfl)) (by rfl) (by decide) ?_
  refine WL.yld (wanted_plain (by rfl)) (yld_build (by repeat (first | exact Prts.nil | apply Prts.cons | rfl)) (by exact Try.zeroValue44) (by exact Try.runUnderlying44) (by exact fun w => places44 w Try.underlying44) (by first | decide | simp) (by repeat (first | exact Fill.nil | apply Fill.cons | exact SetAts.nil | apply SetAts.cons | exact SetAt.here | apply SetAt.there | rfl))) (by rfl) (by decide) ?_
  refine WL.eff0 (wanted_plain (by rfl)) (eff_store (by rfl) (by rfl) (by exact Try.sizeOf44) (by rfl) (by rfl) (by rfl) (by repeat (first | exact .here | apply Sel.there)) (by repeat (first | exact SetAts.nil | apply SetAts.cons | exact SetAt.here | apply SetAt.there))) (by rfl) ?_
  rintro _ -
  try dsimp only
  refine WL.done ?_
  refine WK.ret ?_
  repeat (first | refine RQ.block ?_ | refine RQ.then_ ?_)
  refine RQ.body (resultsC1 (by rfl) (by rfl) (by exact Try.isAgg44) (by exact Try.sizeOf44) (by repeat (first | exact .here | apply Sel.there)) (by repeat (first | exact Cells.nil | apply Cells.cons | rfl))) (fun w s => ?_)
  exact ⟨(), trivial, rfl, s.toCs (by repeat (first | exact SelL.nil | exact SelL.self | apply SelL.cons | exact Sel.here | apply Sel.there | apply SelL.skip))⟩
set_option maxRecDepth 20000 in
set_option maxHeartbeats 1000000 in
theorem plain_spec (x y : Int) (ad : Option Addr) (len cap : Nat) :
    Triple Try.prog 30 #[.agg #[.int .i64 x, .int .i64 y, .slice ad len cap]] [] (Unit) (fun _ => True) (fun _ => .agg #[.int .i64 x, .int .i64 y, .slice ad len cap]) (fun _ => []) := by
  refine Triple.of_body (args := [.agg #[.int .i64 x, .int .i64 y, .slice ad len cap]]) Try.func30 rfl Try.ntmps30 (by simp) (fun g F => ?_)
  dsimp only [numb, List.cons_append, List.nil_append]
  refine WK.seq ?_
  refine WK.region ?_
  refine WL.eff (wanted_plain (by rfl)) (eff_box (by rfl) (by rfl)) (by rfl) (by decide) ?_
  rintro b1 -
  try dsimp only
  refine WL.eff (wanted_plain (by rfl)) (eff_alloc (by exact Try.zeroValue40) (by rfl)) (by rfl) (by decide) ?_
  rintro b2 -
  try dsimp only
  refine WL.done ?_
  refine WK.seq ?_
  refine WK.region ?_
  refine WL.yld (wanted_plain (by rfl)) (yld_fieldAddr (by rfl) (by exact Try.runUnderlying44) (by rfl) (by exact Try.sizeOf3) (by rfl) (by rfl)) (by rfl) (by decide) ?_
  refine WL.yld (wanted_plain (by rfl)) (yld_load (by rfl) (by exact Try.isAgg3) (by repeat (first | exact .here | apply Sel.there)) (by rfl)) (by rfl) (by decide) ?_
  refine WL.yld (wanted_plain (by rfl)) (yld_fieldAddr (by rfl) (by exact Try.runUnderlying44) (by rfl) (by exact Try.sizeOf3) (by rfl) (by rfl)) (by rfl) (by decide) ?_
  refine WL.yld (wanted_plain (by rfl)) (yld_load (by rfl) (by exact Try.isAgg3) (by repeat (first | exact .here | apply Sel.there)) (by rfl)) (by rfl) (by decide) ?_
  refine WL.yld (wanted_plain (by rfl)) (yld_fieldAddr (by rfl) (by exact Try.runUnderlying44) (by rfl) (by exact Try.sizeOf31) (by rfl) (by rfl)) (by rfl) (by decide) ?_
  refine WL.yld (wanted_plain (by rfl)) (yld_load (by rfl) (by exact Try.isAgg31) (by repeat (first | exact .here | apply Sel.there)) (by rfl)) (by rfl) (by decide) ?_
  refine WL.yld (wanted_plain (by rfl)) (yld_build (by repeat (first | exact Prts.nil | apply Prts.cons | rfl)) (by exact Try.zeroValue40) (by exact Try.runUnderlying40) (by exact fun w => places40 w Try.underlying40) (by first | decide | simp) (by repeat (first | exact Fill.nil | apply Fill.cons | exact SetAts.nil | apply SetAts.cons | exact SetAt.here | apply SetAt.there | rfl))) (by rfl) (by decide) ?_
  refine WL.eff0 (wanted_plain (by rfl)) (eff_store (by rfl) (by rfl) (by exact Try.sizeOf40) (by rfl) (by rfl) (by rfl) (by repeat (first | exact .here | apply Sel.there)) (by repeat (first | exact SetAts.nil | apply SetAts.cons | exact SetAt.here | apply SetAt.there))) (by rfl) ?_
  rintro _ -
  try dsimp only
  refine WL.done ?_
  refine WK.ret ?_
  repeat (first | refine RQ.block ?_ | refine RQ.then_ ?_)
  refine RQ.body (resultsC1 (by rfl) (by rfl) (by exact Try.isAgg40) (by exact Try.sizeOf40) (by repeat (first | exact .here | apply Sel.there)) (by repeat (first | exact Cells.nil | apply Cells.cons | rfl))) (fun w s => ?_)
  exact ⟨(), trivial, rfl, s.toCs (by repeat (first | exact SelL.nil | exact SelL.self | apply SelL.cons | exact Sel.here | apply Sel.there | apply SelL.skip))⟩
set_option maxRecDepth 20000 in
set_option maxHeartbeats 1000000 in
theorem refSame_spec (x y : Int) (ad1 ad2 : Option Addr) (cap1 cap2 : Nat) (b : List UInt8) (hb : b.length ≤ 140737488355328) :
    Triple Try.prog 34 #[.agg #[.int .i64 x, .int .i64 y, .slice ad1 b.length cap1], .agg #[.int .i64 x, .int .i64 y, .slice ad2 b.length cap2]] [sl false 5 1 ad1 b.length cap1 (b.map bv), sl false 5 1 ad2 b.length cap2 (b.map bv)] (Unit) (fun _ => True) (fun _ => .bool true) (fun _ => [sl false 5 1 ad1 b.length cap1 (b.map bv), sl false 5 1 ad2 b.length cap2 (b.map bv)]) := by
  refine Triple.of_body (args := [.agg #[.int .i64 x, .int .i64 y, .slice ad1 b.length cap1], .agg #[.int .i64 x, .int .i64 y, .slice ad2 b.length cap2]]) Try.func34 rfl Try.ntmps34 (by simp) (fun g F => ?_)
  dsimp only [numb, List.cons_append, List.nil_append]
  refine WK.seq ?_
  refine WK.region ?_
  refine WL.eff (wanted_plain (by rfl)) (eff_box (by rfl) (by rfl)) (by rfl) (by decide) ?_
  rintro b2 -
  try dsimp only
  refine WL.eff (wanted_plain (by rfl)) (eff_box (by rfl) (by rfl)) (by rfl) (by decide) ?_
  rintro b3 -
  try dsimp only
  refine WL.yld (wanted_plain (by rfl)) (yld_assign (by rfl)) (by rfl) (by decide) ?_
  refine WL.done ?_
  refine WK.seq ?_
  refine WK.region ?_
  refine WL.yld (wanted_plain (by rfl)) (yld_fieldAddr (by rfl) (by exact Try.runUnderlying40) (by rfl) (by exact Try.sizeOf3) (by rfl) (by rfl)) (by rfl) (by decide) ?_
  refine WL.yld (wanted_plain (by rfl)) (yld_load (by rfl) (by exact Try.isAgg3) (by repeat (first | exact .here | apply Sel.there)) (by rfl)) (by rfl) (by decide) ?_
  refine WL.yld (wanted_plain (by rfl)) (yld_fieldAddr (by rfl) (by exact Try.runUnderlying40) (by rfl) (by exact Try.sizeOf3) (by rfl) (by rfl)) (by rfl) (by decide) ?_
  refine WL.yld (wanted_plain (by rfl)) (yld_load (by rfl) (by exact Try.isAgg3) (by repeat (first | exact .here | apply Sel.there)) (by rfl)) (by rfl) (by decide) ?_
  refine WL.yld (wanted_plain (by rfl)) (yld_eql (by rfl) (by rfl)) (by rfl) (by decide) ?_
  refine WL.yld (wanted_plain (by rfl)) (yld_move (by rfl)) (by rfl) (by decide) ?_
  refine WL.split (d := 10) (by rfl) (fun hc10 => ?_) (fun hc10 => ?_)
  · skip
    have hc10 := of_decide_eq_true hc10
    refine WL.yld (wanted_some (by rfl) (by rfl) (by rfl)) (yld_fieldAddr (by rfl) (by exact Try.runUnderlying40) (by rfl) (by exact Try.sizeOf3) (by rfl) (by rfl)) (by rfl) (by decide) ?_
    refine WL.yld (wanted_some (by rfl) (by rfl) (by rfl)) (yld_load (by rfl) (by exact Try.isAgg3) (by repeat (first | exact .here | apply Sel.there)) (by rfl)) (by rfl) (by decide) ?_
    refine WL.yld (wanted_some (by rfl) (by rfl) (by rfl)) (yld_fieldAddr (by rfl) (by exact Try.runUnderlying40) (by rfl) (by exact Try.sizeOf3) (by rfl) (by rfl)) (by rfl) (by decide) ?_
    refine WL.yld (wanted_some (by rfl) (by rfl) (by rfl)) (yld_load (by rfl) (by exact Try.isAgg3) (by repeat (first | exact .here | apply Sel.there)) (by rfl)) (by rfl) (by decide) ?_
    refine WL.yld (wanted_some (by rfl) (by rfl) (by rfl)) (yld_eql (by rfl) (by rfl)) (by rfl) (by decide) ?_
    refine WL.yld (wanted_plain (by rfl)) (yld_pick_true (by rfl) (by rfl)) (by rfl) (by decide) ?_
    refine WL.yld (wanted_plain (by rfl)) (yld_move (by rfl)) (by rfl) (by decide) ?_
    refine WL.split (d := 17) (by rfl) (fun hc17 => ?_) (fun hc17 => ?_)
    · skip
      have hc17 := of_decide_eq_true hc17
      refine WL.yld (wanted_some (by rfl) (by rfl) (by rfl)) (yld_fieldAddr (by rfl) (by exact Try.runUnderlying40) (by rfl) (by exact Try.sizeOf31) (by rfl) (by rfl)) (by rfl) (by decide) ?_
      refine WL.yld (wanted_some (by rfl) (by rfl) (by rfl)) (yld_load (by rfl) (by exact Try.isAgg31) (by repeat (first | exact .here | apply Sel.there)) (by rfl)) (by rfl) (by decide) ?_
      refine WL.yld (wanted_some (by rfl) (by rfl) (by rfl)) (yld_fieldAddr (by rfl) (by exact Try.runUnderlying40) (by rfl) (by exact Try.sizeOf31) (by rfl) (by rfl)) (by rfl) (by decide) ?_
      refine WL.yld (wanted_some (by rfl) (by rfl) (by rfl)) (yld_load (by rfl) (by exact Try.isAgg31) (by repeat (first | exact .here | apply Sel.there)) (by rfl)) (by rfl) (by decide) ?_
      refine WL.eff (wanted_some (by rfl) (by rfl) (by rfl)) (eff_call (by exact Try.call24) (by repeat (first | exact Evs.nil | apply Evs.cons | rfl)) (by repeat (first | exact SelL.nil | exact SelL.self | apply SelL.cons | exact Sel.here | apply Sel.there | apply SelL.skip)) (sameBytes_spec false false ad1 ad2 b.length cap1 b.length cap2 b b hb)) (by rfl) (by decide) ?_
      rintro _ -
      rw [decide_eq_true rfl]
      try dsimp only
      refine WL.yld (wanted_plain (by rfl)) (yld_pick_true (by rfl) (by rfl)) (by rfl) (by decide) ?_
      refine WL.yld (wanted_plain (by rfl)) (yld_assign (by rfl)) (by rfl) (by decide) ?_
      refine WL.done ?_
      refine WK.ret ?_
      repeat (first | refine RQ.block ?_ | refine RQ.then_ ?_)
      refine RQ.body (results1 (by rfl) (by rfl)) (fun w s => ?_)
      exact ⟨(), trivial, rfl, s.toCs (by repeat (first | exact SelL.nil | exact SelL.self | apply SelL.cons | exact Sel.here | apply Sel.there | apply SelL.skip))⟩
    · skip
      have hc17 := of_decide_eq_false hc17
      omega
  · skip
    have hc10 := of_decide_eq_false hc10
    omega
set_option maxRecDepth 20000 in
set_option maxHeartbeats 1000000 in
theorem same_spec (p1 p2 : Bool) (ad1 ad2 : Option Addr) (n cap1 cap2 : Nat) (ps : List Pkt) (vs1 vs2 : List Value) (hn : ps.length = n) (hm : n ≤ 1000000) (hb : ∀ p ∈ ps, p.b.length ≤ 140737488355328) :
    Triple Try.prog 17 #[.slice ad1 n cap1, .slice ad2 n cap2] [sl p1 44 3 ad1 n cap1 (pktC ps vs1), allR (byt 5 false) vs1 (ps.map (·.b)), sl p2 40 3 ad2 n cap2 (pktC ps vs2), allR (byt 5 false) vs2 (ps.map (·.b))] (Unit) (fun _ => True) (fun _ => .bool true) (fun _ => [sl p1 44 3 ad1 n cap1 (pktC ps vs1), allR (byt 5 false) vs1 (ps.map (·.b)), sl p2 40 3 ad2 n cap2 (pktC ps vs2), allR (byt 5 false) vs2 (ps.map (·.b))]) := by
  refine Triple.of_body (args := [.slice ad1 n cap1, .slice ad2 n cap2]) Try.func17 rfl Try.ntmps17 (by simp) (fun g F => ?_)
  dsimp only [numb, List.cons_append, List.nil_append]
  refine WK.seq ?_
  refine WK.region ?_
  refine WL.yld (wanted_plain (by rfl)) (yld_assign (by rfl)) (by rfl) (by decide) ?_
  refine WL.done ?_
  refine WK.seq ?_
  refine WK.seq ?_
  refine WK.region ?_
  refine WL.yld (wanted_plain (by rfl)) (yld_move (by rfl)) (by rfl) (by decide) ?_
  refine WL.yld (wanted_plain (by rfl)) (yld_len (by rfl) (by exact Try.runUnderlying35)) (by rfl) (by decide) ?_
  refine WL.yld (wanted_plain (by rfl)) (yld_move (by rfl)) (by rfl) (by decide) ?_
  refine WL.yld (wanted_plain (by rfl)) (yld_len (by rfl) (by exact Try.runUnderlying30)) (by rfl) (by decide) ?_
  refine WL.yld (wanted_plain (by rfl)) (yld_neq (by rfl) (by rfl)) (by rfl) (by decide) ?_
  refine WL.done ?_
  refine WK.cond (by rfl) (fun hc10 => ?_) (fun hc10 => ?_)
  · skip
    have hc10 := of_decide_eq_true hc10
    omega
  · skip
    have hc10 := of_decide_eq_false hc10
    refine WK.skip ?_
    refine WK.seq ?_
    refine WK.seq ?_
    refine WK.region ?_
    refine WL.yld (wanted_plain (by rfl)) (yld_assign (by rfl)) (by rfl) (by decide) ?_
    refine WL.done ?_
    refine WK.block ?_
    refine WK.loop (ι := Nat) (fun i => i ≤ n) (fun i => [(0, .slice ad1 n cap1), (1, .slice ad2 n cap2), (5, .int .i64 (i : Int))]) (fun i => sl p1 44 3 ad1 n cap1 (pktC ps vs1) :: allR (byt 5 false) vs1 (ps.map (·.b)) :: sl p2 40 3 ad2 n cap2 (pktC ps vs2) :: allR (byt 5 false) vs2 (ps.map (·.b)) :: F) (fun i => n - i) (0) (Nat.zero_le _) (by repeat (first | exact KK.nil | refine KK.cons (by first | rfl | (simp; done)) ?_)) (by repeat (first | exact SelL.nil | exact SelL.self | apply SelL.cons | exact Sel.here | apply Sel.there | apply SelL.skip)) ?_
    rintro i hi N hN
    refine WK.seq ?_
    refine WK.seq ?_
    refine WK.region ?_
    refine WL.yld (wanted_plain (by rfl)) (yld_move (by rfl)) (by rfl) (by decide) ?_
    refine WL.yld (wanted_plain (by rfl)) (yld_move (by rfl)) (by rfl) (by decide) ?_
    refine WL.yld (wanted_plain (by rfl)) (yld_len (by rfl) (by exact Try.runUnderlying35)) (by rfl) (by decide) ?_
    refine WL.yld (wanted_plain (by rfl)) (yld_lss (by rfl) (by rfl)) (by rfl) (by decide) ?_
    refine WL.done ?_
    refine WK.cond (by rfl) (fun hc14 => ?_) (fun hc14 => ?_)
    · skip
      have hc14 := of_decide_eq_true hc14
      refine WK.skip ?_
      refine WK.seq ?_
      refine WK.block ?_
      refine WK.seq ?_
      obtain ⟨p, hp⟩ : ∃ p, ps[i]? = some p := ⟨_, List.getElem?_eq_getElem (by omega)⟩
      have hpb := hb p (List.mem_of_getElem? hp)
      refine WK.openS (fun w s => Sat.allByt (k := i) (bs := p.b) (by rw [List.getElem?_map, hp]; rfl) (s.sel1 (A := allR (byt 5 false) vs1 (ps.map (·.b))) (by repeat (first | exact .here | apply Sel.there)))) ?_
      rintro ⟨ad7, len7, cap7⟩ ⟨hv7, hl7⟩
      dsimp only at hv7 hl7
      subst hl7
      try dsimp only [List.cons_append, List.nil_append]
      refine WK.openS (fun w s => Sat.allByt (k := i) (bs := p.b) (by rw [List.getElem?_map, hp]; rfl) (s.sel1 (A := allR (byt 5 false) vs2 (ps.map (·.b))) (by repeat (first | exact .here | apply Sel.there)))) ?_
      rintro ⟨ad8, len8, cap8⟩ ⟨hv8, hl8⟩
      dsimp only at hv8 hl8
      subst hl8
      try dsimp only [List.cons_append, List.nil_append]
      refine WK.drawn (by kernel_rfl) [(0, 0), (1, 0), (2, 0), (3, 0), (5, 0), (6, 0), (7, 0), (8, 0), (4, 1), (9, 1), (10, 0)] [sl p1 44 3 ad1 n cap1 (pktC ps vs1), sl p2 40 3 ad2 n cap2 (pktC ps vs2)] (by kernel_rfl) (by kernel_rfl) (by kernel_rfl) ?_
      refine WO.yld (by rfl) (wanted_plain (by rfl)) (yld_move (by rfl)) (by rfl) (by decide) (by repeat (first | exact SelL.nil | exact SelL.self | apply SelL.cons | exact Sel.here | apply Sel.there | apply SelL.skip)) ?_
      refine WO.yld (by rfl) (wanted_plain (by rfl)) (yld_move (by rfl)) (by rfl) (by decide) (by repeat (first | exact SelL.nil | exact SelL.self | apply SelL.cons | exact Sel.here | apply Sel.there | apply SelL.skip)) ?_
      refine WO.yld (by rfl) (wanted_plain (by rfl)) (yld_indexAddrS (by rfl) (by rfl) (by exact Try.runUnderlying35) (by exact Try.sizeOf44) (by repeat (first | exact .here | apply Sel.there)) (i) (by first | rfl | omega) (by omega) (by omega) (by rfl)) (by rfl) (by decide) (by repeat (first | exact SelL.nil | exact SelL.self | apply SelL.cons | exact Sel.here | apply Sel.there | apply SelL.skip)) ?_
      refine WO.yld (by rfl) (wanted_plain (by rfl)) (yld_loadSA (by rfl) (by exact Try.isAgg44) (by exact Try.sizeOf44) (by repeat (first | exact .here | apply Sel.there)) (by exact pktC_cells (j := i) hp hv7)) (by rfl) (by decide) (by repeat (first | exact SelL.nil | exact SelL.self | apply SelL.cons | exact Sel.here | apply Sel.there | apply SelL.skip)) ?_
      refine WO.yld (by rfl) (wanted_plain (by rfl)) (yld_move (by rfl)) (by rfl) (by decide) (by repeat (first | exact SelL.nil | exact SelL.self | apply SelL.cons | exact Sel.here | apply Sel.there | apply SelL.skip)) ?_
      refine WO.yld (by rfl) (wanted_plain (by rfl)) (yld_move (by rfl)) (by rfl) (by decide) (by repeat (first | exact SelL.nil | exact SelL.self | apply SelL.cons | exact Sel.here | apply Sel.there | apply SelL.skip)) ?_
      refine WO.yld (by rfl) (wanted_plain (by rfl)) (yld_indexAddrS (by rfl) (by rfl) (by exact Try.runUnderlying30) (by exact Try.sizeOf40) (by repeat (first | exact .here | apply Sel.there)) (i) (by first | rfl | omega) (by omega) (by omega) (by rfl)) (by rfl) (by decide) (by repeat (first | exact SelL.nil | exact SelL.self | apply SelL.cons | exact Sel.here | apply Sel.there | apply SelL.skip)) ?_
      refine WO.yld (by rfl) (wanted_plain (by rfl)) (yld_loadSA (by rfl) (by exact Try.isAgg40) (by exact Try.sizeOf40) (by repeat (first | exact .here | apply Sel.there)) (by exact pktC_cells (j := i) hp hv8)) (by rfl) (by decide) (by repeat (first | exact SelL.nil | exact SelL.self | apply SelL.cons | exact Sel.here | apply Sel.there | apply SelL.skip)) ?_
      refine WO.eff (by rfl) (wanted_plain (by rfl)) (eff_call (by exact Try.call30) (by repeat (first | exact Evs.nil | apply Evs.cons | rfl)) (by repeat (first | exact SelL.nil | exact SelL.self | apply SelL.cons | exact Sel.here | apply Sel.there | apply SelL.skip)) (plain_spec p.seq p.ack ad7 p.b.length cap7)) (by rfl) (by decide) (by intro x; repeat (first | exact SelL.nil | exact SelL.self | apply SelL.cons | exact Sel.here | apply Sel.there | apply SelL.skip)) ?_
      rintro _ -
      try dsimp only
      refine WO.eff (by rfl) (wanted_plain (by rfl)) (eff_call (by exact Try.call34) (by repeat (first | exact Evs.nil | apply Evs.cons | rfl)) (by repeat (first | exact SelL.nil | exact SelL.self | apply SelL.cons | exact Sel.here | apply Sel.there | apply SelL.skip)) (refSame_spec p.seq p.ack ad7 ad8 cap7 cap8 p.b hpb)) (by rfl) (by decide) (by intro x; repeat (first | exact SelL.nil | exact SelL.self | apply SelL.cons | exact Sel.here | apply Sel.there | apply SelL.skip)) ?_
      rintro _ -
      try dsimp only
      refine WO.yld (by rfl) (wanted_plain (by rfl)) (yld_not (by rfl)) (by rfl) (by decide) (by repeat (first | exact SelL.nil | exact SelL.self | apply SelL.cons | exact Sel.here | apply Sel.there | apply SelL.skip)) ?_
      refine WO.done ?_
      refine WK.cond (by rfl) (fun h => by cases h) (fun _ => ?_)
      refine WK.skip ?_
      refine WK.endBlock ?_
      refine WK.region ?_
      refine WL.yld (wanted_plain (by rfl)) (yld_move (by rfl)) (by rfl) (by decide) ?_
      refine WL.yld (wanted_plain (by rfl)) (yld_add (by rfl) (by rfl) (by first | exact w64 (by omega) (by omega) | rfl)) (by rfl) (by decide) ?_
      refine WL.yld (wanted_plain (by rfl)) (yld_assign (by rfl)) (by rfl) (by decide) ?_
      refine WL.done ?_
      exact WK.next hN (i + 1) (by omega) (by omega) (by repeat (first | exact KK.nil | refine KK.cons (by first | rfl | (simp; done)) ?_)) (by repeat (first | exact SelL.nil | exact SelL.self | apply SelL.cons | exact Sel.here | apply Sel.there | apply SelL.skip))
    · skip
      have hc14 := of_decide_eq_false hc14
      refine WK.exit ?_
      repeat (first | refine XQ.then_ ?_ | refine XQ.block (by rfl) ?_)
      refine XQ.here ?_
      refine WK.seq ?_
      refine WK.region ?_
      refine WL.yld (wanted_plain (by rfl)) (yld_assign (by rfl)) (by rfl) (by decide) ?_
      refine WL.done ?_
      refine WK.ret ?_
      repeat (first | refine RQ.block ?_ | refine RQ.then_ ?_)
      refine RQ.body (results1 (by rfl) (by rfl)) (fun w s => ?_)
      exact ⟨(), trivial, rfl, s.toCs (by repeat (first | exact SelL.nil | exact SelL.self | apply SelL.cons | exact Sel.here | apply Sel.there | apply SelL.skip))⟩
set_option maxRecDepth 20000 in
set_option maxHeartbeats 1000000 in
theorem sameLists_spec (p1 p2 : Bool) (ad1 ad2 : Option Addr) (n cap1 cap2 : Nat) (xs : List (List UInt8)) (vs1 vs2 : List Value) (hn : xs.length = n) (hm : n ≤ 1000000) (hb : ∀ b ∈ xs, b.length ≤ 140737488355328) :
    Triple Try.prog 18 #[.slice ad1 n cap1, .slice ad2 n cap2] [sl p1 31 1 ad1 n cap1 vs1, allR (byt 5 false) vs1 xs, sl p2 31 1 ad2 n cap2 vs2, allR (byt 5 false) vs2 xs] (Unit) (fun _ => True) (fun _ => .bool true) (fun _ => [sl p1 31 1 ad1 n cap1 vs1, allR (byt 5 false) vs1 xs, sl p2 31 1 ad2 n cap2 vs2, allR (byt 5 false) vs2 xs]) := by
  refine Triple.of_body (args := [.slice ad1 n cap1, .slice ad2 n cap2]) Try.func18 rfl Try.ntmps18 (by simp) (fun g F => ?_)
  dsimp only [numb, List.cons_append, List.nil_append]
  refine WK.seq ?_
  refine WK.region ?_
  refine WL.yld (wanted_plain (by rfl)) (yld_assign (by rfl)) (by rfl) (by decide) ?_
  refine WL.done ?_
  refine WK.seq ?_
  refine WK.seq ?_
  refine WK.region ?_
  refine WL.yld (wanted_plain (by rfl)) (yld_move (by rfl)) (by rfl) (by decide) ?_
  refine WL.yld (wanted_plain (by rfl)) (yld_len (by rfl) (by exact Try.runUnderlying42)) (by rfl) (by decide) ?_
  refine WL.yld (wanted_plain (by rfl)) (yld_move (by rfl)) (by rfl) (by decide) ?_
  refine WL.yld (wanted_plain (by rfl)) (yld_len (by rfl) (by exact Try.runUnderlying42)) (by rfl) (by decide) ?_
  refine WL.yld (wanted_plain (by rfl)) (yld_neq (by rfl) (by rfl)) (by rfl) (by decide) ?_
  refine WL.done ?_
  refine WK.cond (by rfl) (fun hc10 => ?_) (fun hc10 => ?_)
  · skip
    have hc10 := of_decide_eq_true hc10
    omega
  · skip
    have hc10 := of_decide_eq_false hc10
    refine WK.skip ?_
    refine WK.seq ?_
    refine WK.seq ?_
    refine WK.region ?_
    refine WL.yld (wanted_plain (by rfl)) (yld_assign (by rfl)) (by rfl) (by decide) ?_
    refine WL.done ?_
    refine WK.block ?_
    refine WK.loop (ι := Nat) (fun i => i ≤ n) (fun i => [(0, .slice ad1 n cap1), (1, .slice ad2 n cap2), (5, .int .i64 (i : Int))]) (fun i => sl p1 31 1 ad1 n cap1 vs1 :: allR (byt 5 false) vs1 xs :: sl p2 31 1 ad2 n cap2 vs2 :: allR (byt 5 false) vs2 xs :: F) (fun i => n - i) (0) (Nat.zero_le _) (by repeat (first | exact KK.nil | refine KK.cons (by first | rfl | (simp; done)) ?_)) (by repeat (first | exact SelL.nil | exact SelL.self | apply SelL.cons | exact Sel.here | apply Sel.there | apply SelL.skip)) ?_
    rintro i hi N hN
    refine WK.seq ?_
    refine WK.seq ?_
    refine WK.region ?_
    refine WL.yld (wanted_plain (by rfl)) (yld_move (by rfl)) (by rfl) (by decide) ?_
    refine WL.yld (wanted_plain (by rfl)) (yld_move (by rfl)) (by rfl) (by decide) ?_
    refine WL.yld (wanted_plain (by rfl)) (yld_len (by rfl) (by exact Try.runUnderlying42)) (by rfl) (by decide) ?_
    refine WL.yld (wanted_plain (by rfl)) (yld_lss (by rfl) (by rfl)) (by rfl) (by decide) ?_
    refine WL.done ?_
    refine WK.cond (by rfl) (fun hc14 => ?_) (fun hc14 => ?_)
    · skip
      have hc14 := of_decide_eq_true hc14
      refine WK.skip ?_
      refine WK.seq ?_
      refine WK.block ?_
      refine WK.seq ?_
      obtain ⟨b, hp⟩ : ∃ p, xs[i]? = some p := ⟨_, List.getElem?_eq_getElem (by omega)⟩
      have hpb := hb b (List.mem_of_getElem? hp)
      refine WK.openS (fun w s => Sat.allByt (k := i) (bs := b) (by exact hp) (s.sel1 (A := allR (byt 5 false) vs1 xs) (by repeat (first | exact .here | apply Sel.there)))) ?_
      rintro ⟨ad7, len7, cap7⟩ ⟨hv7, hl7⟩
      dsimp only at hv7 hl7
      subst hl7
      try dsimp only [List.cons_append, List.nil_append]
      refine WK.openS (fun w s => Sat.allByt (k := i) (bs := b) (by exact hp) (s.sel1 (A := allR (byt 5 false) vs2 xs) (by repeat (first | exact .here | apply Sel.there)))) ?_
      rintro ⟨ad8, len8, cap8⟩ ⟨hv8, hl8⟩
      dsimp only at hv8 hl8
      subst hl8
      try dsimp only [List.cons_append, List.nil_append]
      refine WK.drawn (by kernel_rfl) [(0, 0), (1, 0), (2, 0), (3, 0), (4, 0), (5, 0), (6, 0), (7, 0), (8, 1), (9, 0)] [sl p1 31 1 ad1 n cap1 vs1, sl p2 31 1 ad2 n cap2 vs2] (by kernel_rfl) (by kernel_rfl) (by kernel_rfl) ?_
      refine WO.yld (by rfl) (wanted_plain (by rfl)) (yld_move (by rfl)) (by rfl) (by decide) (by repeat (first | exact SelL.nil | exact SelL.self | apply SelL.cons | exact Sel.here | apply Sel.there | apply SelL.skip)) ?_
      refine WO.yld (by rfl) (wanted_plain (by rfl)) (yld_move (by rfl)) (by rfl) (by decide) (by repeat (first | exact SelL.nil | exact SelL.self | apply SelL.cons | exact Sel.here | apply Sel.there | apply SelL.skip)) ?_
      refine WO.yld (by rfl) (wanted_plain (by rfl)) (yld_indexAddrS (by rfl) (by rfl) (by exact Try.runUnderlying42) (by exact Try.sizeOf31) (by repeat (first | exact .here | apply Sel.there)) (i) (by first | rfl | omega) (by omega) (by omega) (by exact Nat.mul_one _)) (by rfl) (by decide) (by repeat (first | exact SelL.nil | exact SelL.self | apply SelL.cons | exact Sel.here | apply Sel.there | apply SelL.skip)) ?_
      refine WO.yld (by rfl) (wanted_plain (by rfl)) (yld_loadS (by rfl) (by exact Try.isAgg31) (by repeat (first | exact .here | apply Sel.there)) (by exact hv7)) (by rfl) (by decide) (by repeat (first | exact SelL.nil | exact SelL.self | apply SelL.cons | exact Sel.here | apply Sel.there | apply SelL.skip)) ?_
      refine WO.yld (by rfl) (wanted_plain (by rfl)) (yld_move (by rfl)) (by rfl) (by decide) (by repeat (first | exact SelL.nil | exact SelL.self | apply SelL.cons | exact Sel.here | apply Sel.there | apply SelL.skip)) ?_
      refine WO.yld (by rfl) (wanted_plain (by rfl)) (yld_move (by rfl)) (by rfl) (by decide) (by repeat (first | exact SelL.nil | exact SelL.self | apply SelL.cons | exact Sel.here | apply Sel.there | apply SelL.skip)) ?_
      refine WO.yld (by rfl) (wanted_plain (by rfl)) (yld_indexAddrS (by rfl) (by rfl) (by exact Try.runUnderlying42) (by exact Try.sizeOf31) (by repeat (first | exact .here | apply Sel.there)) (i) (by first | rfl | omega) (by omega) (by omega) (by exact Nat.mul_one _)) (by rfl) (by decide) (by repeat (first | exact SelL.nil | exact SelL.self | apply SelL.cons | exact Sel.here | apply Sel.there | apply SelL.skip)) ?_
      refine WO.yld (by rfl) (wanted_plain (by rfl)) (yld_loadS (by rfl) (by exact Try.isAgg31) (by repeat (first | exact .here | apply Sel.there)) (by exact hv8)) (by rfl) (by decide) (by repeat (first | exact SelL.nil | exact SelL.self | apply SelL.cons | exact Sel.here | apply Sel.there | apply SelL.skip)) ?_
      refine WO.eff (by rfl) (wanted_plain (by rfl)) (eff_call (by exact Try.call24) (by repeat (first | exact Evs.nil | apply Evs.cons | rfl)) (by repeat (first | exact SelL.nil | exact SelL.self | apply SelL.cons | exact Sel.here | apply Sel.there | apply SelL.skip)) (sameBytes_spec false false ad7 ad8 b.length cap7 b.length cap8 b b hpb)) (by rfl) (by decide) (by intro x; repeat (first | exact SelL.nil | exact SelL.self | apply SelL.cons | exact Sel.here | apply Sel.there | apply SelL.skip)) ?_
      rintro _ -
      rw [decide_eq_true rfl]
      try dsimp only
      refine WO.yld (by rfl) (wanted_plain (by rfl)) (yld_not (by rfl)) (by rfl) (by decide) (by repeat (first | exact SelL.nil | exact SelL.self | apply SelL.cons | exact Sel.here | apply Sel.there | apply SelL.skip)) ?_
      refine WO.done ?_
      refine WK.cond (by rfl) (fun h => by cases h) (fun _ => ?_)
      refine WK.skip ?_
      refine WK.endBlock ?_
      refine WK.region ?_
      refine WL.yld (wanted_plain (by rfl)) (yld_move (by rfl)) (by rfl) (by decide) ?_
      refine WL.yld (wanted_plain (by rfl)) (yld_add (by rfl) (by rfl) (by first | exact w64 (by omega) (by omega) | rfl)) (by rfl) (by decide) ?_
      refine WL.yld (wanted_plain (by rfl)) (yld_assign (by rfl)) (by rfl) (by decide) ?_
      refine WL.done ?_
      exact WK.next hN (i + 1) (by omega) (by omega) (by repeat (first | exact KK.nil | refine KK.cons (by first | rfl | (simp; done)) ?_)) (by repeat (first | exact SelL.nil | exact SelL.self | apply SelL.cons | exact Sel.here | apply Sel.there | apply SelL.skip))
    · skip
      have hc14 := of_decide_eq_false hc14
      refine WK.exit ?_
      repeat (first | refine XQ.then_ ?_ | refine XQ.block (by rfl) ?_)
      refine XQ.here ?_
      refine WK.seq ?_
      refine WK.region ?_
      refine WL.yld (wanted_plain (by rfl)) (yld_assign (by rfl)) (by rfl) (by decide) ?_
      refine WL.done ?_
      refine WK.ret ?_
      repeat (first | refine RQ.block ?_ | refine RQ.then_ ?_)
      refine RQ.body (results1 (by rfl) (by rfl)) (fun w s => ?_)
      exact ⟨(), trivial, rfl, s.toCs (by repeat (first | exact SelL.nil | exact SelL.self | apply SelL.cons | exact Sel.here | apply Sel.there | apply SelL.skip))⟩
set_option maxRecDepth 20000 in
set_option maxHeartbeats 1000000 in
theorem refFind_spec (q : Nat) (cw ca cg : Int) (sad : Option Addr) (slen scap : Nat) (had : Option Addr) (hlen hcap : Nat) (o : Bool) (h : List (Int × List UInt8)) (hvs : List Value) (hh : h.length = hvs.length) (hb : hlen ≤ 1000000) (k : Int) :
    Triple Try.prog 46 #[.pointer (some ⟨q, 0, none⟩), .int .i64 k] [row true q 50 [.int .i64 cw, .slice sad slen scap, .int .i64 ca, .int .i64 cg, .slice had hlen hcap, .bool o], sl true 91 2 had hlen hcap (heldC h hvs)] (Unit) (fun _ => True) (fun _ => .int .i64 (findI h k)) (fun _ => [row true q 50 [.int .i64 cw, .slice sad slen scap, .int .i64 ca, .int .i64 cg, .slice had hlen hcap, .bool o], sl true 91 2 had hlen hcap (heldC h hvs)]) := by
  refine Triple.of_body (args := [.pointer (some ⟨q, 0, none⟩), .int .i64 k]) Try.func46 rfl Try.ntmps46 (by simp) (fun g F => ?_)
  dsimp only [numb, List.cons_append, List.nil_append]
  refine WK.know (fun w s => Sat.slLen (s.sel1 (A := sl true 91 2 had hlen hcap (heldC h hvs)) (by repeat (first | exact .here | apply Sel.there)))) (fun hkn => ?_)
  obtain ⟨n1, -⟩ := hkn
  rw [heldC_len hh] at n1
  have n2 : h.length = hlen := by omega
  refine WK.seq ?_
  refine WK.region ?_
  refine WL.yld (wanted_plain (by rfl)) (yld_assign (by rfl)) (by rfl) (by decide) ?_
  refine WL.done ?_
  refine WK.seq ?_
  refine WK.seq ?_
  refine WK.region ?_
  refine WL.yld (wanted_plain (by rfl)) (yld_assign (by rfl)) (by rfl) (by decide) ?_
  refine WL.done ?_
  refine WK.block ?_
  refine WK.loop (ι := Nat) (fun i => i ≤ hlen ∧ ∀ j < i, ∀ q, h[j]? = some q → q.1 ≠ k) (fun i => [(0, .pointer (some ⟨q, 0, none⟩)), (1, .int .i64 k), (5, .int .i64 (i : Int))]) (fun i => row true q 50 [.int .i64 cw, .slice sad slen scap, .int .i64 ca, .int .i64 cg, .slice had hlen hcap, .bool o] :: sl true 91 2 had hlen hcap (heldC h hvs) :: F) (fun i => hlen - i) (0) (⟨Nat.zero_le _, by intro j hj; omega⟩) (by repeat (first | exact KK.nil | refine KK.cons (by first | rfl | (simp; done)) ?_)) (by repeat (first | exact SelL.nil | exact SelL.self | apply SelL.cons | exact Sel.here | apply Sel.there | apply SelL.skip)) ?_
  rintro i ⟨hi, hno⟩ N hN
  refine WK.seq ?_
  refine WK.seq ?_
  refine WK.region ?_
  refine WL.yld (wanted_plain (by rfl)) (yld_move (by rfl)) (by rfl) (by decide) ?_
  refine WL.yld (wanted_plain (by rfl)) (yld_move (by rfl)) (by rfl) (by decide) ?_
  refine WL.yld (wanted_plain (by rfl)) (yld_nilCheck (by rfl)) (by rfl) (by decide) ?_
  refine WL.yld (wanted_plain (by rfl)) (yld_fieldAddr (by rfl) (by exact Try.runUnderlying50) (by rfl) (by exact Try.sizeOf48) (by rfl) (by rfl)) (by rfl) (by decide) ?_
  refine WL.yld (wanted_plain (by rfl)) (yld_load (by rfl) (by exact Try.isAgg48) (by repeat (first | exact .here | apply Sel.there)) (by rfl)) (by rfl) (by decide) ?_
  refine WL.yld (wanted_plain (by rfl)) (yld_len (by rfl) (by exact Try.runUnderlying48)) (by rfl) (by decide) ?_
  refine WL.yld (wanted_plain (by rfl)) (yld_lss (by rfl) (by rfl)) (by rfl) (by decide) ?_
  refine WL.done ?_
  refine WK.cond (by rfl) (fun hc12 => ?_) (fun hc12 => ?_)
  · skip
    have hc12 := of_decide_eq_true hc12
    refine WK.skip ?_
    refine WK.seq ?_
    refine WK.block ?_
    refine WK.seq ?_
    obtain ⟨p, hp⟩ : ∃ p, h[i]? = some p := ⟨_, List.getElem?_eq_getElem (by omega)⟩
    obtain ⟨v, hv⟩ : ∃ v, hvs[i]? = some v := ⟨_, List.getElem?_eq_getElem (by omega)⟩
    refine WK.region ?_
    refine WL.yld (wanted_plain (by rfl)) (yld_move (by rfl)) (by rfl) (by decide) ?_
    refine WL.yld (wanted_plain (by rfl)) (yld_nilCheck (by rfl)) (by rfl) (by decide) ?_
    refine WL.yld (wanted_plain (by rfl)) (yld_fieldAddr (by rfl) (by exact Try.runUnderlying50) (by rfl) (by exact Try.sizeOf48) (by rfl) (by rfl)) (by rfl) (by decide) ?_
    refine WL.yld (wanted_plain (by rfl)) (yld_load (by rfl) (by exact Try.isAgg48) (by repeat (first | exact .here | apply Sel.there)) (by rfl)) (by rfl) (by decide) ?_
    refine WL.yld (wanted_plain (by rfl)) (yld_move (by rfl)) (by rfl) (by decide) ?_
    refine WL.yld (wanted_plain (by rfl)) (yld_indexAddrS (by rfl) (by rfl) (by exact Try.runUnderlying48) (by exact Try.sizeOf91) (by repeat (first | exact .here | apply Sel.there)) (i) (by first | rfl | omega) (by omega) (by omega) (by rfl)) (by rfl) (by decide) ?_
    refine WL.yld (wanted_plain (by rfl)) (yld_fieldAddrS (by rfl) (by exact Try.runUnderlying91) (by rfl) (by exact Try.sizeOf3) (by rfl) (by rfl)) (by rfl) (by decide) ?_
    refine WL.yld (wanted_plain (by rfl)) (yld_loadS (by rfl) (by exact Try.isAgg3) (by repeat (first | exact .here | apply Sel.there)) (by exact (heldC_cells hp hv).1)) (by rfl) (by decide) ?_
    refine WL.yld (wanted_plain (by rfl)) (yld_move (by rfl)) (by rfl) (by decide) ?_
    refine WL.yld (wanted_plain (by rfl)) (yld_eql (by rfl) (by rfl)) (by rfl) (by decide) ?_
    refine WL.done ?_
    refine WK.cond (by rfl) (fun hc24 => ?_) (fun hc24 => ?_)
    · skip
      have hc24 := of_decide_eq_true hc24
      refine WK.seq ?_
      refine WK.region ?_
      refine WL.yld (wanted_plain (by rfl)) (yld_move (by rfl)) (by rfl) (by decide) ?_
      refine WL.yld (wanted_plain (by rfl)) (yld_assign (by rfl)) (by rfl) (by decide) ?_
      refine WL.done ?_
      refine WK.ret ?_
      repeat (first | refine RQ.block ?_ | refine RQ.then_ ?_)
      refine RQ.body (results1 (by rfl) (by rfl)) (fun w s => ?_)
      have hf := fi_look hno hp hc24
      exact ⟨(), trivial, by unfold findI; rw [hf], s.toCs (by repeat (first | exact SelL.nil | exact SelL.self | apply SelL.cons | exact Sel.here | apply Sel.there | apply SelL.skip))⟩
    · skip
      have hc24 := of_decide_eq_false hc24
      refine WK.skip ?_
      refine WK.endBlock ?_
      refine WK.region ?_
      refine WL.yld (wanted_plain (by rfl)) (yld_move (by rfl)) (by rfl) (by decide) ?_
      refine WL.yld (wanted_plain (by rfl)) (yld_add (by rfl) (by rfl) (by first | exact w64 (by omega) (by omega) | rfl)) (by rfl) (by decide) ?_
      refine WL.yld (wanted_plain (by rfl)) (yld_assign (by rfl)) (by rfl) (by decide) ?_
      refine WL.done ?_
      exact WK.next hN (i + 1) ⟨by omega, fun j hj q hq => by
        by_cases hji : j = i
        · subst hji; rw [hp] at hq; cases hq; exact hc24
        · exact hno j (by omega) q hq⟩ (by omega) (by repeat (first | exact KK.nil | refine KK.cons (by first | rfl | (simp; done)) ?_)) (by repeat (first | exact SelL.nil | exact SelL.self | apply SelL.cons | exact Sel.here | apply Sel.there | apply SelL.skip))
  · skip
    have hc12 := of_decide_eq_false hc12
    refine WK.exit ?_
    repeat (first | refine XQ.then_ ?_ | refine XQ.block (by rfl) ?_)
    refine XQ.here ?_
    refine WK.seq ?_
    refine WK.region ?_
    refine WL.yld (wanted_plain (by rfl)) (yld_assign (by rfl)) (by rfl) (by decide) ?_
    refine WL.done ?_
    refine WK.ret ?_
    repeat (first | refine RQ.block ?_ | refine RQ.then_ ?_)
    refine RQ.body (results1 (by rfl) (by rfl)) (fun w s => ?_)
    have hf : fi h k = none := fi_not (fun j hj => hno j (by omega))
    exact ⟨(), trivial, by unfold findI; rw [hf], s.toCs (by repeat (first | exact SelL.nil | exact SelL.self | apply SelL.cons | exact Sel.here | apply Sel.there | apply SelL.skip))⟩
set_option maxRecDepth 20000 in
set_option maxHeartbeats 2000000 in
theorem refIn_spec (q : Nat) (r : RM) (p : Pkt) (pad : Option Addr) (pcap : Nat) (ha : 0 ≤ r.acked ∧ r.acked ≤ 1000000) (hg : 0 ≤ r.got ∧ r.got ≤ 1000000) (hs : r.sent.length ≤ 1000000) (hh : r.held.length ≤ 10000) :
    Triple Try.prog 21 #[.pointer (some ⟨q, 0, none⟩), .agg #[.int .i64 p.seq, .int .i64 p.ack, .slice pad p.b.length pcap]] [refR q r, sl false 5 1 pad p.b.length pcap (p.b.map bv)] (Option Addr × Nat × Nat × List Value) (fun x => x.2.1 = (inR r p).1.length) (fun x => .slice x.1 x.2.1 x.2.2.1) (fun x => [refR q (inR r p).2, sl true 31 1 x.1 x.2.1 x.2.2.1 x.2.2.2, allR (byt 5 false) x.2.2.2 (inR r p).1]) := by
  refine Triple.refOpen ?_
  rintro ⟨sad, slen, scap, svs, had, hlen, hcap, hvs⟩
  dsimp only [refL]
  refine Triple.of_body (args := [.pointer (some ⟨q, 0, none⟩), .agg #[.int .i64 p.seq, .int .i64 p.ack, .slice pad p.b.length pcap]]) Try.func21 rfl Try.ntmps21 (by simp) (fun g F => ?_)
  dsimp only [numb, List.cons_append, List.nil_append]
  refine WK.know (fun w s => And.intro (Sat.slLen (s.sel1 (A := sl true 31 1 sad slen scap svs) (by repeat (first | exact .here | apply Sel.there)))) (And.intro (Sat.allLen (s.sel1 (A := allR (byt 5 false) svs r.sent) (by repeat (first | exact .here | apply Sel.there)))) (And.intro (Sat.slLen (s.sel1 (A := sl true 91 2 had hlen hcap (heldC r.held hvs)) (by repeat (first | exact .here | apply Sel.there)))) (Sat.allLen (s.sel1 (A := allR (byt 5 false) hvs (r.held.map (·.2))) (by repeat (first | exact .here | apply Sel.there))))))) (fun hkn => ?_)
  obtain ⟨⟨n1, -⟩, n2, ⟨n3, -⟩, n4⟩ := hkn
  have n5 : r.held.length = hvs.length := by simpa using n4.symm
  rw [heldC_len n5] at n3
  have n6 : r.held.length = hlen := by omega
  have n7 : r.sent.length = slen := by omega
  refine WK.seq ?_
  refine WK.region ?_
  refine WL.eff (wanted_plain (by rfl)) (eff_box (by rfl) (by rfl)) (by rfl) (by decide) ?_
  rintro b3 -
  try dsimp only
  refine WL.yld (wanted_plain (by rfl)) (yld_assign (by rfl)) (by rfl) (by decide) ?_
  refine WL.done ?_
  refine WK.seq ?_
  refine WK.region ?_
  refine WL.yld (wanted_plain (by rfl)) (yld_loadA (by rfl) (by exact Try.isAgg40) (by exact Try.sizeOf40) (by repeat (first | exact .here | apply Sel.there)) (by repeat (first | exact Cells.nil | apply Cells.cons | rfl))) (by rfl) (by decide) ?_
  refine WL.eff (wanted_plain (by rfl)) (eff_call (by exact Try.call45) (by repeat (first | exact Evs.nil | apply Evs.cons | rfl)) (by repeat (first | exact SelL.nil | exact SelL.self | apply SelL.cons | exact Sel.here | apply Sel.there | apply SelL.skip)) (refValid_spec p.seq p.ack pad p.b.length pcap)) (by rfl) (by decide) ?_
  rintro _ -
  try dsimp only
  refine WL.yld (wanted_plain (by rfl)) (yld_assign (by rfl)) (by rfl) (by decide) ?_
  refine WL.done ?_
  refine WK.seq ?_
  refine WK.seq ?_
  refine WK.drawnQ (by kernel_rfl) [(0, 0), (1, 0), (2, 0), (3, 0), (4, 0), (5, 0), (6, 0), (7, 0), (8, 0), (9, 0), (10, 0), (11, 0), (12, 0), (13, 0), (14, 0), (15, 0), (16, 0), (17, 0), (18, 0), (19, 0), (20, 0), (21, 0)] (by kernel_rfl) (by kernel_rfl) (by kernel_rfl) ?_
  refine WO.yld (by rfl) (wanted_plain (by rfl)) (yld_move (by rfl)) (by rfl) (by decide) (by repeat (first | exact SelL.nil | exact SelL.self | apply SelL.cons | exact Sel.here | apply Sel.there | apply SelL.skip)) ?_
  refine WO.yld (by rfl) (wanted_plain (by rfl)) (yld_not (by rfl)) (by rfl) (by decide) (by repeat (first | exact SelL.nil | exact SelL.self | apply SelL.cons | exact Sel.here | apply Sel.there | apply SelL.skip)) ?_
  refine WO.yld (by rfl) (wanted_plain (by rfl)) (yld_move (by rfl)) (by rfl) (by decide) (by repeat (first | exact SelL.nil | exact SelL.self | apply SelL.cons | exact Sel.here | apply Sel.there | apply SelL.skip)) ?_
  refine WO.split (d := 13) (by rfl) (fun hc13 => ?_) (fun hc13 => ?_)
  · skip
    refine WO.skip (by rfl) (unwanted_some (by rfl) (by rfl) (by rfl) (by rfl)) (by rfl) (by decide) (by repeat (first | exact SelL.nil | exact SelL.self | apply SelL.cons | exact Sel.here | apply Sel.there | apply SelL.skip)) ?_
    refine WO.skip (by rfl) (unwanted_some (by rfl) (by rfl) (by rfl) (by rfl)) (by rfl) (by decide) (by repeat (first | exact SelL.nil | exact SelL.self | apply SelL.cons | exact Sel.here | apply Sel.there | apply SelL.skip)) ?_
    refine WO.skip (by rfl) (unwanted_some (by rfl) (by rfl) (by rfl) (by rfl)) (by rfl) (by decide) (by repeat (first | exact SelL.nil | exact SelL.self | apply SelL.cons | exact Sel.here | apply Sel.there | apply SelL.skip)) ?_
    refine WO.skip (by rfl) (unwanted_some (by rfl) (by rfl) (by rfl) (by rfl)) (by rfl) (by decide) (by repeat (first | exact SelL.nil | exact SelL.self | apply SelL.cons | exact Sel.here | apply Sel.there | apply SelL.skip)) ?_
    refine WO.skip (by rfl) (unwanted_some (by rfl) (by rfl) (by rfl) (by rfl)) (by rfl) (by decide) (by repeat (first | exact SelL.nil | exact SelL.self | apply SelL.cons | exact Sel.here | apply Sel.there | apply SelL.skip)) ?_
    refine WO.skip (by rfl) (unwanted_some (by rfl) (by rfl) (by rfl) (by rfl)) (by rfl) (by decide) (by repeat (first | exact SelL.nil | exact SelL.self | apply SelL.cons | exact Sel.here | apply Sel.there | apply SelL.skip)) ?_
    refine WO.skip (by rfl) (unwanted_some (by rfl) (by rfl) (by rfl) (by rfl)) (by rfl) (by decide) (by repeat (first | exact SelL.nil | exact SelL.self | apply SelL.cons | exact Sel.here | apply Sel.there | apply SelL.skip)) ?_
    refine WO.skip (by rfl) (unwanted_some (by rfl) (by rfl) (by rfl) (by rfl)) (by rfl) (by decide) (by repeat (first | exact SelL.nil | exact SelL.self | apply SelL.cons | exact Sel.here | apply Sel.there | apply SelL.skip)) ?_
    refine WO.yld (by rfl) (wanted_plain (by rfl)) (yld_pick_true (by rfl) (by rfl)) (by rfl) (by decide) (by repeat (first | exact SelL.nil | exact SelL.self | apply SelL.cons | exact Sel.here | apply Sel.there | apply SelL.skip)) ?_
    refine WO.yld (by rfl) (wanted_plain (by rfl)) (yld_move (by rfl)) (by rfl) (by decide) (by repeat (first | exact SelL.nil | exact SelL.self | apply SelL.cons | exact Sel.here | apply Sel.there | apply SelL.skip)) ?_
    refine WO.skip (by rfl) (unwanted_some (by rfl) (by rfl) (by rfl) (by rfl)) (by rfl) (by decide) (by repeat (first | exact SelL.nil | exact SelL.self | apply SelL.cons | exact Sel.here | apply Sel.there | apply SelL.skip)) ?_
    refine WO.skip (by rfl) (unwanted_some (by rfl) (by rfl) (by rfl) (by rfl)) (by rfl) (by decide) (by repeat (first | exact SelL.nil | exact SelL.self | apply SelL.cons | exact Sel.here | apply Sel.there | apply SelL.skip)) ?_
    refine WO.skip (by rfl) (unwanted_some (by rfl) (by rfl) (by rfl) (by rfl)) (by rfl) (by decide) (by repeat (first | exact SelL.nil | exact SelL.self | apply SelL.cons | exact Sel.here | apply Sel.there | apply SelL.skip)) ?_
    refine WO.skip (by rfl) (unwanted_some (by rfl) (by rfl) (by rfl) (by rfl)) (by rfl) (by decide) (by repeat (first | exact SelL.nil | exact SelL.self | apply SelL.cons | exact Sel.here | apply Sel.there | apply SelL.skip)) ?_
    refine WO.skip (by rfl) (unwanted_some (by rfl) (by rfl) (by rfl) (by rfl)) (by rfl) (by decide) (by repeat (first | exact SelL.nil | exact SelL.self | apply SelL.cons | exact Sel.here | apply Sel.there | apply SelL.skip)) ?_
    refine WO.skip (by rfl) (unwanted_some (by rfl) (by rfl) (by rfl) (by rfl)) (by rfl) (by decide) (by repeat (first | exact SelL.nil | exact SelL.self | apply SelL.cons | exact Sel.here | apply Sel.there | apply SelL.skip)) ?_
    refine WO.skip (by rfl) (unwanted_some (by rfl) (by rfl) (by rfl) (by rfl)) (by rfl) (by decide) (by repeat (first | exact SelL.nil | exact SelL.self | apply SelL.cons | exact Sel.here | apply Sel.there | apply SelL.skip)) ?_
    refine WO.skip (by rfl) (unwanted_some (by rfl) (by rfl) (by rfl) (by rfl)) (by rfl) (by decide) (by repeat (first | exact SelL.nil | exact SelL.self | apply SelL.cons | exact Sel.here | apply Sel.there | apply SelL.skip)) ?_
    refine WO.yld (by rfl) (wanted_plain (by rfl)) (yld_pick_true (by rfl) (by rfl)) (by rfl) (by decide) (by repeat (first | exact SelL.nil | exact SelL.self | apply SelL.cons | exact Sel.here | apply Sel.there | apply SelL.skip)) ?_
    refine WO.done ?_
    refine WK.cond (by rfl) (fun _ => ?_) (fun h => by cases h)
    refine WK.seq ?_
    refine WK.region ?_
    refine WL.yld (wanted_plain (by rfl)) (yld_assign (by rfl)) (by rfl) (by decide) ?_
    refine WL.done ?_
    refine WK.ret ?_
    repeat (first | refine RQ.block ?_ | refine RQ.then_ ?_)
    refine RQ.body (results1 (by rfl) (by rfl)) (fun w s => ?_)
    have hm : inR r p = ([], r) := if_pos (.inl (not_true_of hc13))
    refine ⟨(none, 0, 0, []), by rw [hm]; rfl, rfl, ?_⟩
    rw [hm]
    refine Sat.refShut ⟨sad, slen, scap, svs, had, hlen, hcap, hvs⟩ ?_
    dsimp only [refL, ackR, List.cons_append, List.nil_append]
    exact ((s.nilSl true 31 1).allNil (Rl := byt 5 false)).toCs (by repeat (first | exact SelL.nil | exact SelL.self | apply SelL.cons | exact Sel.here | apply Sel.there | apply SelL.skip))
  · skip
    have hval := not_false_of hc13
    obtain ⟨hv1, hv2, hv3, hv4⟩ : 0 ≤ p.seq ∧ 0 ≤ p.ack ∧ p.b.length ≤ 65536 ∧ (0 < p.seq ∨ p.b.length = 0) := by simpa [validB] using hval
    refine WO.yld (by rfl) (wanted_some (by rfl) (by rfl) (by rfl)) (yld_fieldAddr (by rfl) (by exact Try.runUnderlying40) (by rfl) (by exact Try.sizeOf3) (by rfl) (by rfl)) (by rfl) (by decide) (by repeat (first | exact SelL.nil | exact SelL.self | apply SelL.cons | exact Sel.here | apply Sel.there | apply SelL.skip)) ?_
    refine WO.yld (by rfl) (wanted_some (by rfl) (by rfl) (by rfl)) (yld_load (by rfl) (by exact Try.isAgg3) (by repeat (first | exact .here | apply Sel.there)) (by rfl)) (by rfl) (by decide) (by repeat (first | exact SelL.nil | exact SelL.self | apply SelL.cons | exact Sel.here | apply Sel.there | apply SelL.skip)) ?_
    refine WO.yld (by rfl) (wanted_some (by rfl) (by rfl) (by rfl)) (yld_move (by rfl)) (by rfl) (by decide) (by repeat (first | exact SelL.nil | exact SelL.self | apply SelL.cons | exact Sel.here | apply Sel.there | apply SelL.skip)) ?_
    refine WO.yld (by rfl) (wanted_some (by rfl) (by rfl) (by rfl)) (yld_nilCheck (by rfl)) (by rfl) (by decide) (by repeat (first | exact SelL.nil | exact SelL.self | apply SelL.cons | exact Sel.here | apply Sel.there | apply SelL.skip)) ?_
    refine WO.yld (by rfl) (wanted_some (by rfl) (by rfl) (by rfl)) (yld_fieldAddr (by rfl) (by exact Try.runUnderlying50) (by rfl) (by exact Try.sizeOf42) (by rfl) (by rfl)) (by rfl) (by decide) (by repeat (first | exact SelL.nil | exact SelL.self | apply SelL.cons | exact Sel.here | apply Sel.there | apply SelL.skip)) ?_
    refine WO.yld (by rfl) (wanted_some (by rfl) (by rfl) (by rfl)) (yld_load (by rfl) (by exact Try.isAgg42) (by repeat (first | exact .here | apply Sel.there)) (by rfl)) (by rfl) (by decide) (by repeat (first | exact SelL.nil | exact SelL.self | apply SelL.cons | exact Sel.here | apply Sel.there | apply SelL.skip)) ?_
    refine WO.yld (by rfl) (wanted_some (by rfl) (by rfl) (by rfl)) (yld_len (by rfl) (by exact Try.runUnderlying42)) (by rfl) (by decide) (by repeat (first | exact SelL.nil | exact SelL.self | apply SelL.cons | exact Sel.here | apply Sel.there | apply SelL.skip)) ?_
    refine WO.yld (by rfl) (wanted_some (by rfl) (by rfl) (by rfl)) (yld_gtr (by rfl) (by rfl)) (by rfl) (by decide) (by repeat (first | exact SelL.nil | exact SelL.self | apply SelL.cons | exact Sel.here | apply Sel.there | apply SelL.skip)) ?_
    refine WO.yld (by rfl) (wanted_plain (by rfl)) (yld_pick_false (by rfl) (by rfl)) (by rfl) (by decide) (by repeat (first | exact SelL.nil | exact SelL.self | apply SelL.cons | exact Sel.here | apply Sel.there | apply SelL.skip)) ?_
    refine WO.yld (by rfl) (wanted_plain (by rfl)) (yld_move (by rfl)) (by rfl) (by decide) (by repeat (first | exact SelL.nil | exact SelL.self | apply SelL.cons | exact Sel.here | apply Sel.there | apply SelL.skip)) ?_
    refine WO.split (d := 23) (by rfl) (fun hc23 => ?_) (fun hc23 => ?_)
    · skip
      have hc23 := of_decide_eq_true hc23
      refine WO.skip (by rfl) (unwanted_some (by rfl) (by rfl) (by rfl) (by rfl)) (by rfl) (by decide) (by repeat (first | exact SelL.nil | exact SelL.self | apply SelL.cons | exact Sel.here | apply Sel.there | apply SelL.skip)) ?_
      refine WO.skip (by rfl) (unwanted_some (by rfl) (by rfl) (by rfl) (by rfl)) (by rfl) (by decide) (by repeat (first | exact SelL.nil | exact SelL.self | apply SelL.cons | exact Sel.here | apply Sel.there | apply SelL.skip)) ?_
      refine WO.skip (by rfl) (unwanted_some (by rfl) (by rfl) (by rfl) (by rfl)) (by rfl) (by decide) (by repeat (first | exact SelL.nil | exact SelL.self | apply SelL.cons | exact Sel.here | apply Sel.there | apply SelL.skip)) ?_
      refine WO.skip (by rfl) (unwanted_some (by rfl) (by rfl) (by rfl) (by rfl)) (by rfl) (by decide) (by repeat (first | exact SelL.nil | exact SelL.self | apply SelL.cons | exact Sel.here | apply Sel.there | apply SelL.skip)) ?_
      refine WO.skip (by rfl) (unwanted_some (by rfl) (by rfl) (by rfl) (by rfl)) (by rfl) (by decide) (by repeat (first | exact SelL.nil | exact SelL.self | apply SelL.cons | exact Sel.here | apply Sel.there | apply SelL.skip)) ?_
      refine WO.skip (by rfl) (unwanted_some (by rfl) (by rfl) (by rfl) (by rfl)) (by rfl) (by decide) (by repeat (first | exact SelL.nil | exact SelL.self | apply SelL.cons | exact Sel.here | apply Sel.there | apply SelL.skip)) ?_
      refine WO.skip (by rfl) (unwanted_some (by rfl) (by rfl) (by rfl) (by rfl)) (by rfl) (by decide) (by repeat (first | exact SelL.nil | exact SelL.self | apply SelL.cons | exact Sel.here | apply Sel.there | apply SelL.skip)) ?_
      refine WO.skip (by rfl) (unwanted_some (by rfl) (by rfl) (by rfl) (by rfl)) (by rfl) (by decide) (by repeat (first | exact SelL.nil | exact SelL.self | apply SelL.cons | exact Sel.here | apply Sel.there | apply SelL.skip)) ?_
      refine WO.yld (by rfl) (wanted_plain (by rfl)) (yld_pick_true (by rfl) (by rfl)) (by rfl) (by decide) (by repeat (first | exact SelL.nil | exact SelL.self | apply SelL.cons | exact Sel.here | apply Sel.there | apply SelL.skip)) ?_
      refine WO.done ?_
      refine WK.cond (by rfl) (fun _ => ?_) (fun h => by cases h)
      refine WK.seq ?_
      refine WK.region ?_
      refine WL.yld (wanted_plain (by rfl)) (yld_assign (by rfl)) (by rfl) (by decide) ?_
      refine WL.done ?_
      refine WK.ret ?_
      repeat (first | refine RQ.block ?_ | refine RQ.then_ ?_)
      refine RQ.body (results1 (by rfl) (by rfl)) (fun w s => ?_)
      have hm : inR r p = ([], r) := if_pos (.inr (.inl (by omega)))
      refine ⟨(none, 0, 0, []), by rw [hm]; rfl, rfl, ?_⟩
      rw [hm]
      refine Sat.refShut ⟨sad, slen, scap, svs, had, hlen, hcap, hvs⟩ ?_
      dsimp only [refL, ackR, List.cons_append, List.nil_append]
      exact ((s.nilSl true 31 1).allNil (Rl := byt 5 false)).toCs (by repeat (first | exact SelL.nil | exact SelL.self | apply SelL.cons | exact Sel.here | apply Sel.there | apply SelL.skip))
    · skip
      have hc23 := of_decide_eq_false hc23
      refine WO.yld (by rfl) (wanted_some (by rfl) (by rfl) (by rfl)) (yld_fieldAddr (by rfl) (by exact Try.runUnderlying40) (by rfl) (by exact Try.sizeOf3) (by rfl) (by rfl)) (by rfl) (by decide) (by repeat (first | exact SelL.nil | exact SelL.self | apply SelL.cons | exact Sel.here | apply Sel.there | apply SelL.skip)) ?_
      refine WO.yld (by rfl) (wanted_some (by rfl) (by rfl) (by rfl)) (yld_load (by rfl) (by exact Try.isAgg3) (by repeat (first | exact .here | apply Sel.there)) (by rfl)) (by rfl) (by decide) (by repeat (first | exact SelL.nil | exact SelL.self | apply SelL.cons | exact Sel.here | apply Sel.there | apply SelL.skip)) ?_
      refine WO.yld (by rfl) (wanted_some (by rfl) (by rfl) (by rfl)) (yld_move (by rfl)) (by rfl) (by decide) (by repeat (first | exact SelL.nil | exact SelL.self | apply SelL.cons | exact Sel.here | apply Sel.there | apply SelL.skip)) ?_
      refine WO.yld (by rfl) (wanted_some (by rfl) (by rfl) (by rfl)) (yld_nilCheck (by rfl)) (by rfl) (by decide) (by repeat (first | exact SelL.nil | exact SelL.self | apply SelL.cons | exact Sel.here | apply Sel.there | apply SelL.skip)) ?_
      refine WO.yld (by rfl) (wanted_some (by rfl) (by rfl) (by rfl)) (yld_fieldAddr (by rfl) (by exact Try.runUnderlying50) (by rfl) (by exact Try.sizeOf3) (by rfl) (by rfl)) (by rfl) (by decide) (by repeat (first | exact SelL.nil | exact SelL.self | apply SelL.cons | exact Sel.here | apply Sel.there | apply SelL.skip)) ?_
      refine WO.yld (by rfl) (wanted_some (by rfl) (by rfl) (by rfl)) (yld_load (by rfl) (by exact Try.isAgg3) (by repeat (first | exact .here | apply Sel.there)) (by rfl)) (by rfl) (by decide) (by repeat (first | exact SelL.nil | exact SelL.self | apply SelL.cons | exact Sel.here | apply Sel.there | apply SelL.skip)) ?_
      refine WO.yld (by rfl) (wanted_some (by rfl) (by rfl) (by rfl)) (yld_add (by rfl) (by rfl) (by first | exact w64 (by omega) (by omega) | rfl)) (by rfl) (by decide) (by repeat (first | exact SelL.nil | exact SelL.self | apply SelL.cons | exact Sel.here | apply Sel.there | apply SelL.skip)) ?_
      refine WO.yld (by rfl) (wanted_some (by rfl) (by rfl) (by rfl)) (yld_gtr (by rfl) (by rfl)) (by rfl) (by decide) (by repeat (first | exact SelL.nil | exact SelL.self | apply SelL.cons | exact Sel.here | apply Sel.there | apply SelL.skip)) ?_
      refine WO.yld (by rfl) (wanted_plain (by rfl)) (yld_pick_false (by rfl) (by rfl)) (by rfl) (by decide) (by repeat (first | exact SelL.nil | exact SelL.self | apply SelL.cons | exact Sel.here | apply Sel.there | apply SelL.skip)) ?_
      refine WO.done ?_
      refine WK.cond (by rfl) (fun hc32 => ?_) (fun hc32 => ?_)
      · skip
        have hc32 := of_decide_eq_true hc32
        refine WK.seq ?_
        refine WK.region ?_
        refine WL.yld (wanted_plain (by rfl)) (yld_assign (by rfl)) (by rfl) (by decide) ?_
        refine WL.done ?_
        refine WK.ret ?_
        repeat (first | refine RQ.block ?_ | refine RQ.then_ ?_)
        refine RQ.body (results1 (by rfl) (by rfl)) (fun w s => ?_)
        have hm : inR r p = ([], r) := if_pos (.inr (.inr (by omega)))
        refine ⟨(none, 0, 0, []), by rw [hm]; rfl, rfl, ?_⟩
        rw [hm]
        refine Sat.refShut ⟨sad, slen, scap, svs, had, hlen, hcap, hvs⟩ ?_
        dsimp only [refL, ackR, List.cons_append, List.nil_append]
        exact ((s.nilSl true 31 1).allNil (Rl := byt 5 false)).toCs (by repeat (first | exact SelL.nil | exact SelL.self | apply SelL.cons | exact Sel.here | apply Sel.there | apply SelL.skip))
      · skip
        have hc32 := of_decide_eq_false hc32
        refine WK.skip ?_
        refine WK.seq ?_
        refine WK.drawn (by kernel_rfl) [(0, 0), (1, 0), (2, 0), (3, 0), (4, 0), (5, 0), (6, 0), (7, 0), (8, 0), (9, 0), (10, 2)] [row true q 50 [.int .i64 r.window, .slice sad slen scap, .int .i64 r.acked, .int .i64 r.got, .slice had hlen hcap, .bool r.owing], row true b3 40 [.int .i64 p.seq, .int .i64 p.ack, .slice pad p.b.length pcap]] (by kernel_rfl) (by kernel_rfl) (by kernel_rfl) ?_
        refine WO.yld (by rfl) (wanted_plain (by rfl)) (yld_move (by rfl)) (by rfl) (by decide) (by repeat (first | exact SelL.nil | exact SelL.self | apply SelL.cons | exact Sel.here | apply Sel.there | apply SelL.skip)) ?_
        refine WO.yld (by rfl) (wanted_plain (by rfl)) (yld_move (by rfl)) (by rfl) (by decide) (by repeat (first | exact SelL.nil | exact SelL.self | apply SelL.cons | exact Sel.here | apply Sel.there | apply SelL.skip)) ?_
        refine WO.yld (by rfl) (wanted_plain (by rfl)) (yld_nilCheck (by rfl)) (by rfl) (by decide) (by repeat (first | exact SelL.nil | exact SelL.self | apply SelL.cons | exact Sel.here | apply Sel.there | apply SelL.skip)) ?_
        refine WO.yld (by rfl) (wanted_plain (by rfl)) (yld_fieldAddr (by rfl) (by exact Try.runUnderlying50) (by rfl) (by exact Try.sizeOf3) (by rfl) (by rfl)) (by rfl) (by decide) (by repeat (first | exact SelL.nil | exact SelL.self | apply SelL.cons | exact Sel.here | apply Sel.there | apply SelL.skip)) ?_
        refine WO.yld (by rfl) (wanted_plain (by rfl)) (yld_load (by rfl) (by exact Try.isAgg3) (by repeat (first | exact .here | apply Sel.there)) (by rfl)) (by rfl) (by decide) (by repeat (first | exact SelL.nil | exact SelL.self | apply SelL.cons | exact Sel.here | apply Sel.there | apply SelL.skip)) ?_
        refine WO.yld (by rfl) (wanted_plain (by rfl)) (yld_fieldAddr (by rfl) (by exact Try.runUnderlying40) (by rfl) (by exact Try.sizeOf3) (by rfl) (by rfl)) (by rfl) (by decide) (by repeat (first | exact SelL.nil | exact SelL.self | apply SelL.cons | exact Sel.here | apply Sel.there | apply SelL.skip)) ?_
        refine WO.yld (by rfl) (wanted_plain (by rfl)) (yld_load (by rfl) (by exact Try.isAgg3) (by repeat (first | exact .here | apply Sel.there)) (by rfl)) (by rfl) (by decide) (by repeat (first | exact SelL.nil | exact SelL.self | apply SelL.cons | exact Sel.here | apply Sel.there | apply SelL.skip)) ?_
        refine WO.yld (by rfl) (wanted_plain (by rfl)) (yld_max (by rfl) (by rfl)) (by rfl) (by decide) (by repeat (first | exact SelL.nil | exact SelL.self | apply SelL.cons | exact Sel.here | apply Sel.there | apply SelL.skip)) ?_
        refine WO.yld (by rfl) (wanted_plain (by rfl)) (yld_nilCheck (by rfl)) (by rfl) (by decide) (by repeat (first | exact SelL.nil | exact SelL.self | apply SelL.cons | exact Sel.here | apply Sel.there | apply SelL.skip)) ?_
        refine WO.yld (by rfl) (wanted_plain (by rfl)) (yld_fieldAddr (by rfl) (by exact Try.runUnderlying50) (by rfl) (by exact Try.sizeOf3) (by rfl) (by rfl)) (by rfl) (by decide) (by repeat (first | exact SelL.nil | exact SelL.self | apply SelL.cons | exact Sel.here | apply Sel.there | apply SelL.skip)) ?_
        refine WO.brk0 (by rfl) (wanted_plain (by rfl)) (eff_store (by rfl) (by rfl) (by exact Try.sizeOf3) (by rfl) (by rfl) (by rfl) (by repeat (first | exact .here | apply Sel.there)) (by repeat (first | exact SetAts.nil | apply SetAts.cons | exact SetAt.here | apply SetAt.there))) (by rfl) ?_
        rintro _ -
        try dsimp only
        refine WO.done ?_
        refine WK.seq ?_
        refine WK.seq ?_
        refine WK.region ?_
        refine WL.yld (wanted_plain (by rfl)) (yld_fieldAddr (by rfl) (by exact Try.runUnderlying40) (by rfl) (by exact Try.sizeOf3) (by rfl) (by rfl)) (by rfl) (by decide) ?_
        refine WL.yld (wanted_plain (by rfl)) (yld_load (by rfl) (by exact Try.isAgg3) (by repeat (first | exact .here | apply Sel.there)) (by rfl)) (by rfl) (by decide) ?_
        refine WL.yld (wanted_plain (by rfl)) (yld_eql (by rfl) (by rfl)) (by rfl) (by decide) ?_
        refine WL.done ?_
        refine WK.cond (by rfl) (fun hc45 => ?_) (fun hc45 => ?_)
        · skip
          have hc45 := of_decide_eq_true hc45
          refine WK.seq ?_
          refine WK.region ?_
          refine WL.yld (wanted_plain (by rfl)) (yld_assign (by rfl)) (by rfl) (by decide) ?_
          refine WL.done ?_
          refine WK.ret ?_
          repeat (first | refine RQ.block ?_ | refine RQ.then_ ?_)
          refine RQ.body (results1 (by rfl) (by rfl)) (fun w s => ?_)
          have hm : inR r p = ([], ackR r p.ack) := by
            unfold inR
            rw [if_neg (by rw [hval]; rintro (h | h | h); cases h; omega; omega), if_pos hc45]
          refine ⟨(none, 0, 0, []), by rw [hm]; rfl, rfl, ?_⟩
          rw [hm]
          refine Sat.refShut ⟨sad, slen, scap, svs, had, hlen, hcap, hvs⟩ ?_
          dsimp only [refL, ackR, List.cons_append, List.nil_append]
          exact ((s.nilSl true 31 1).allNil (Rl := byt 5 false)).toCs (by repeat (first | exact SelL.nil | exact SelL.self | apply SelL.cons | exact Sel.here | apply Sel.there | apply SelL.skip))
        · skip
          have hc45 := of_decide_eq_false hc45
          refine WK.skip ?_
          refine WK.seq ?_
          refine WK.region ?_
          refine WL.yld (wanted_plain (by rfl)) (yld_move (by rfl)) (by rfl) (by decide) ?_
          refine WL.yld (wanted_plain (by rfl)) (yld_nilCheck (by rfl)) (by rfl) (by decide) ?_
          refine WL.yld (wanted_plain (by rfl)) (yld_fieldAddr (by rfl) (by exact Try.runUnderlying50) (by rfl) (by exact Try.sizeOf4) (by rfl) (by rfl)) (by rfl) (by decide) ?_
          refine WL.eff0 (wanted_plain (by rfl)) (eff_store (by rfl) (by rfl) (by exact Try.sizeOf4) (by rfl) (by rfl) (by rfl) (by repeat (first | exact .here | apply Sel.there)) (by repeat (first | exact SetAts.nil | apply SetAts.cons | exact SetAt.here | apply SetAt.there))) (by rfl) ?_
          rintro _ -
          try dsimp only
          refine WL.done ?_
          refine WK.seq ?_
          refine WK.seq ?_
          refine WK.drawn (by kernel_rfl) [(0, 0), (1, 0), (2, 0), (3, 0), (4, 0), (5, 0), (6, 0), (7, 0), (8, 0), (9, 0), (10, 0), (11, 1), (12, 0), (13, 0)] [row true q 50 [.int .i64 r.window, .slice sad slen scap, .int .i64 (max r.acked p.ack), .int .i64 r.got, .slice had hlen hcap, .bool true], row true b3 40 [.int .i64 p.seq, .int .i64 p.ack, .slice pad p.b.length pcap]] (by kernel_rfl) (by kernel_rfl) (by kernel_rfl) ?_
          refine WO.yld (by rfl) (wanted_plain (by rfl)) (yld_fieldAddr (by rfl) (by exact Try.runUnderlying40) (by rfl) (by exact Try.sizeOf3) (by rfl) (by rfl)) (by rfl) (by decide) (by repeat (first | exact SelL.nil | exact SelL.self | apply SelL.cons | exact Sel.here | apply Sel.there | apply SelL.skip)) ?_
          refine WO.yld (by rfl) (wanted_plain (by rfl)) (yld_load (by rfl) (by exact Try.isAgg3) (by repeat (first | exact .here | apply Sel.there)) (by rfl)) (by rfl) (by decide) (by repeat (first | exact SelL.nil | exact SelL.self | apply SelL.cons | exact Sel.here | apply Sel.there | apply SelL.skip)) ?_
          refine WO.yld (by rfl) (wanted_plain (by rfl)) (yld_move (by rfl)) (by rfl) (by decide) (by repeat (first | exact SelL.nil | exact SelL.self | apply SelL.cons | exact Sel.here | apply Sel.there | apply SelL.skip)) ?_
          refine WO.yld (by rfl) (wanted_plain (by rfl)) (yld_nilCheck (by rfl)) (by rfl) (by decide) (by repeat (first | exact SelL.nil | exact SelL.self | apply SelL.cons | exact Sel.here | apply Sel.there | apply SelL.skip)) ?_
          refine WO.yld (by rfl) (wanted_plain (by rfl)) (yld_fieldAddr (by rfl) (by exact Try.runUnderlying50) (by rfl) (by exact Try.sizeOf3) (by rfl) (by rfl)) (by rfl) (by decide) (by repeat (first | exact SelL.nil | exact SelL.self | apply SelL.cons | exact Sel.here | apply Sel.there | apply SelL.skip)) ?_
          refine WO.yld (by rfl) (wanted_plain (by rfl)) (yld_load (by rfl) (by exact Try.isAgg3) (by repeat (first | exact .here | apply Sel.there)) (by rfl)) (by rfl) (by decide) (by repeat (first | exact SelL.nil | exact SelL.self | apply SelL.cons | exact Sel.here | apply Sel.there | apply SelL.skip)) ?_
          refine WO.yld (by rfl) (wanted_plain (by rfl)) (yld_leq (by rfl) (by rfl)) (by rfl) (by decide) (by repeat (first | exact SelL.nil | exact SelL.self | apply SelL.cons | exact Sel.here | apply Sel.there | apply SelL.skip)) ?_
          refine WO.yld (by rfl) (wanted_plain (by rfl)) (yld_move (by rfl)) (by rfl) (by decide) (by repeat (first | exact SelL.nil | exact SelL.self | apply SelL.cons | exact Sel.here | apply Sel.there | apply SelL.skip)) ?_
          refine WO.split (d := 56) (by rfl) (fun hc56 => ?_) (fun hc56 => ?_)
          · skip
            have hc56 := of_decide_eq_true hc56
            refine WO.skip (by rfl) (unwanted_some (by rfl) (by rfl) (by rfl) (by rfl)) (by rfl) (by decide) (by repeat (first | exact SelL.nil | exact SelL.self | apply SelL.cons | exact Sel.here | apply Sel.there | apply SelL.skip)) ?_
            refine WO.skip (by rfl) (unwanted_some (by rfl) (by rfl) (by rfl) (by rfl)) (by rfl) (by decide) (by repeat (first | exact SelL.nil | exact SelL.self | apply SelL.cons | exact Sel.here | apply Sel.there | apply SelL.skip)) ?_
            refine WO.skip (by rfl) (unwanted_some (by rfl) (by rfl) (by rfl) (by rfl)) (by rfl) (by decide) (by repeat (first | exact SelL.nil | exact SelL.self | apply SelL.cons | exact Sel.here | apply Sel.there | apply SelL.skip)) ?_
            refine WO.skipE (by rfl) (unwanted_some (by rfl) (by rfl) (by rfl) (by rfl)) (by rfl) (by decide) (by repeat (first | exact SelL.nil | exact SelL.self | apply SelL.cons | exact Sel.here | apply Sel.there | apply SelL.skip)) ?_
            refine WO.skip (by rfl) (unwanted_some (by rfl) (by rfl) (by rfl) (by rfl)) (by rfl) (by decide) (by repeat (first | exact SelL.nil | exact SelL.self | apply SelL.cons | exact Sel.here | apply Sel.there | apply SelL.skip)) ?_
            refine WO.yld (by rfl) (wanted_plain (by rfl)) (yld_pick_true (by rfl) (by rfl)) (by rfl) (by decide) (by repeat (first | exact SelL.nil | exact SelL.self | apply SelL.cons | exact Sel.here | apply Sel.there | apply SelL.skip)) ?_
            refine WO.done ?_
            refine WK.cond (by rfl) (fun _ => ?_) (fun h => by cases h)
            refine WK.seq ?_
            refine WK.region ?_
            refine WL.yld (wanted_plain (by rfl)) (yld_assign (by rfl)) (by rfl) (by decide) ?_
            refine WL.done ?_
            refine WK.ret ?_
            repeat (first | refine RQ.block ?_ | refine RQ.then_ ?_)
            refine RQ.body (results1 (by rfl) (by rfl)) (fun w s => ?_)
            have hm : inR r p = ([], { ackR r p.ack with owing := true }) := by
              unfold inR
              rw [if_neg (by rw [hval]; rintro (h | h | h); cases h; omega; omega), if_neg hc45, if_pos (.inl hc56)]
            refine ⟨(none, 0, 0, []), by rw [hm]; rfl, rfl, ?_⟩
            rw [hm]
            refine Sat.refShut ⟨sad, slen, scap, svs, had, hlen, hcap, hvs⟩ ?_
            dsimp only [refL, ackR, List.cons_append, List.nil_append]
            exact ((s.nilSl true 31 1).allNil (Rl := byt 5 false)).toCs (by repeat (first | exact SelL.nil | exact SelL.self | apply SelL.cons | exact Sel.here | apply Sel.there | apply SelL.skip))
          · skip
            have hc56 := of_decide_eq_false hc56
            refine WO.yld (by rfl) (wanted_some (by rfl) (by rfl) (by rfl)) (yld_move (by rfl)) (by rfl) (by decide) (by repeat (first | exact SelL.nil | exact SelL.self | apply SelL.cons | exact Sel.here | apply Sel.there | apply SelL.skip)) ?_
            refine WO.yld (by rfl) (wanted_some (by rfl) (by rfl) (by rfl)) (yld_fieldAddr (by rfl) (by exact Try.runUnderlying40) (by rfl) (by exact Try.sizeOf3) (by rfl) (by rfl)) (by rfl) (by decide) (by repeat (first | exact SelL.nil | exact SelL.self | apply SelL.cons | exact Sel.here | apply Sel.there | apply SelL.skip)) ?_
            refine WO.yld (by rfl) (wanted_some (by rfl) (by rfl) (by rfl)) (yld_load (by rfl) (by exact Try.isAgg3) (by repeat (first | exact .here | apply Sel.there)) (by rfl)) (by rfl) (by decide) (by repeat (first | exact SelL.nil | exact SelL.self | apply SelL.cons | exact Sel.here | apply Sel.there | apply SelL.skip)) ?_
            refine WO.eff (by rfl) (wanted_some (by rfl) (by rfl) (by rfl)) (eff_call (by exact Try.call46) (by repeat (first | exact Evs.nil | apply Evs.cons | rfl)) (by repeat (first | exact SelL.nil | exact SelL.self | apply SelL.cons | exact Sel.here | apply Sel.there | apply SelL.skip)) (refFind_spec q r.window (max r.acked p.ack) r.got sad slen scap had hlen hcap true r.held hvs (by omega) (by omega) p.seq)) (by rfl) (by decide) (by intro x; repeat (first | exact SelL.nil | exact SelL.self | apply SelL.cons | exact Sel.here | apply Sel.there | apply SelL.skip)) ?_
            rintro _ -
            try dsimp only
            refine WO.yld (by rfl) (wanted_some (by rfl) (by rfl) (by rfl)) (yld_geq (by rfl) (by rfl)) (by rfl) (by decide) (by repeat (first | exact SelL.nil | exact SelL.self | apply SelL.cons | exact Sel.here | apply Sel.there | apply SelL.skip)) ?_
            refine WO.yld (by rfl) (wanted_plain (by rfl)) (yld_pick_false (by rfl) (by rfl)) (by rfl) (by decide) (by repeat (first | exact SelL.nil | exact SelL.self | apply SelL.cons | exact Sel.here | apply Sel.there | apply SelL.skip)) ?_
            refine WO.done ?_
            refine WK.cond (by rfl) (fun hc62 => ?_) (fun hc62 => ?_)
            · skip
              have hc62 := of_decide_eq_true hc62
              refine WK.seq ?_
              refine WK.region ?_
              refine WL.yld (wanted_plain (by rfl)) (yld_assign (by rfl)) (by rfl) (by decide) ?_
              refine WL.done ?_
              refine WK.ret ?_
              repeat (first | refine RQ.block ?_ | refine RQ.then_ ?_)
              refine RQ.body (results1 (by rfl) (by rfl)) (fun w s => ?_)
              have hm : inR r p = ([], { ackR r p.ack with owing := true }) := by
                unfold inR
                rw [if_neg (by rw [hval]; rintro (h | h | h); cases h; omega; omega), if_neg hc45, if_pos (.inr (by intro h; have := fi_none.2 h; unfold findI at hc62; rw [this] at hc62; simp at hc62))]
              refine ⟨(none, 0, 0, []), by rw [hm]; rfl, rfl, ?_⟩
              rw [hm]
              refine Sat.refShut ⟨sad, slen, scap, svs, had, hlen, hcap, hvs⟩ ?_
              dsimp only [refL, ackR, List.cons_append, List.nil_append]
              exact ((s.nilSl true 31 1).allNil (Rl := byt 5 false)).toCs (by repeat (first | exact SelL.nil | exact SelL.self | apply SelL.cons | exact Sel.here | apply Sel.there | apply SelL.skip))
            · skip
              have hc62 := of_decide_eq_false hc62
              refine WK.skip ?_
              refine WK.seq ?_
              refine WK.drawn (by kernel_rfl) [(0, 0), (1, 0), (2, 0), (3, 0), (4, 0), (5, 0), (6, 0), (7, 0), (8, 0), (9, 0), (10, 1), (11, 1), (12, 0), (13, 0), (14, 2)] [row true q 50 [.int .i64 r.window, .slice sad slen scap, .int .i64 (max r.acked p.ack), .int .i64 r.got, .slice had hlen hcap, .bool true], row true b3 40 [.int .i64 p.seq, .int .i64 p.ack, .slice pad p.b.length pcap]] (by kernel_rfl) (by kernel_rfl) (by kernel_rfl) ?_
              refine WO.yld (by rfl) (wanted_plain (by rfl)) (yld_move (by rfl)) (by rfl) (by decide) (by repeat (first | exact SelL.nil | exact SelL.self | apply SelL.cons | exact Sel.here | apply Sel.there | apply SelL.skip)) ?_
              refine WO.yld (by rfl) (wanted_plain (by rfl)) (yld_move (by rfl)) (by rfl) (by decide) (by repeat (first | exact SelL.nil | exact SelL.self | apply SelL.cons | exact Sel.here | apply Sel.there | apply SelL.skip)) ?_
              refine WO.yld (by rfl) (wanted_plain (by rfl)) (yld_nilCheck (by rfl)) (by rfl) (by decide) (by repeat (first | exact SelL.nil | exact SelL.self | apply SelL.cons | exact Sel.here | apply Sel.there | apply SelL.skip)) ?_
              refine WO.yld (by rfl) (wanted_plain (by rfl)) (yld_fieldAddr (by rfl) (by exact Try.runUnderlying50) (by rfl) (by exact Try.sizeOf48) (by rfl) (by rfl)) (by rfl) (by decide) (by repeat (first | exact SelL.nil | exact SelL.self | apply SelL.cons | exact Sel.here | apply Sel.there | apply SelL.skip)) ?_
              refine WO.yld (by rfl) (wanted_plain (by rfl)) (yld_load (by rfl) (by exact Try.isAgg48) (by repeat (first | exact .here | apply Sel.there)) (by rfl)) (by rfl) (by decide) (by repeat (first | exact SelL.nil | exact SelL.self | apply SelL.cons | exact Sel.here | apply Sel.there | apply SelL.skip)) ?_
              refine WO.yld (by rfl) (wanted_plain (by rfl)) (yld_fieldAddr (by rfl) (by exact Try.runUnderlying40) (by rfl) (by exact Try.sizeOf3) (by rfl) (by rfl)) (by rfl) (by decide) (by repeat (first | exact SelL.nil | exact SelL.self | apply SelL.cons | exact Sel.here | apply Sel.there | apply SelL.skip)) ?_
              refine WO.yld (by rfl) (wanted_plain (by rfl)) (yld_load (by rfl) (by exact Try.isAgg3) (by repeat (first | exact .here | apply Sel.there)) (by rfl)) (by rfl) (by decide) (by repeat (first | exact SelL.nil | exact SelL.self | apply SelL.cons | exact Sel.here | apply Sel.there | apply SelL.skip)) ?_
              refine WO.yld (by rfl) (wanted_plain (by rfl)) (yld_fieldAddr (by rfl) (by exact Try.runUnderlying40) (by rfl) (by exact Try.sizeOf31) (by rfl) (by rfl)) (by rfl) (by decide) (by repeat (first | exact SelL.nil | exact SelL.self | apply SelL.cons | exact Sel.here | apply Sel.there | apply SelL.skip)) ?_
              refine WO.yld (by rfl) (wanted_plain (by rfl)) (yld_load (by rfl) (by exact Try.isAgg31) (by repeat (first | exact .here | apply Sel.there)) (by rfl)) (by rfl) (by decide) (by repeat (first | exact SelL.nil | exact SelL.self | apply SelL.cons | exact Sel.here | apply Sel.there | apply SelL.skip)) ?_
              refine WO.yld (by rfl) (wanted_plain (by rfl)) (yld_build (by repeat (first | exact Prts.nil | apply Prts.cons | rfl)) (by exact Try.zeroValue91) (by exact Try.runUnderlying91) (by exact fun w => places91 w Try.underlying91) (by first | decide | simp) (by repeat (first | exact Fill.nil | apply Fill.cons | exact SetAts.nil | apply SetAts.cons | exact SetAt.here | apply SetAt.there | rfl))) (by rfl) (by decide) (by repeat (first | exact SelL.nil | exact SelL.self | apply SelL.cons | exact Sel.here | apply Sel.there | apply SelL.skip)) ?_
              refine WO.eff (by rfl) (wanted_plain (by rfl)) (eff_mkSlice1 (by rfl) (by rfl) (by exact Try.runUnderlying48) (by exact Try.sizeOf91) (by exact Try.zeroValue91) (by rfl) (by rfl) (by decide) (by rfl)) (by rfl) (by decide) (by intro x; repeat (first | exact SelL.nil | exact SelL.self | apply SelL.cons | exact Sel.here | apply Sel.there | apply SelL.skip)) ?_
              rintro b73 -
              try dsimp only
              refine WO.eff (by rfl) (wanted_plain (by rfl)) (eff_append (by rfl) (by rfl) (by exact elem48) (by exact Try.underlying48) (by repeat (first | exact SelL.nil | exact SelL.self | apply SelL.cons | exact Sel.here | apply Sel.there | apply SelL.skip)) (by omega) (by omega)) (by rfl) (by decide) (by intro x; repeat (first | exact SelL.nil | exact SelL.self | apply SelL.cons | exact Sel.here | apply Sel.there | apply SelL.skip)) ?_
              rintro ⟨ad74, cap74⟩ -
              try dsimp only
              refine WO.yld (by rfl) (wanted_plain (by rfl)) (yld_nilCheck (by rfl)) (by rfl) (by decide) (by repeat (first | exact SelL.nil | exact SelL.self | apply SelL.cons | exact Sel.here | apply Sel.there | apply SelL.skip)) ?_
              refine WO.yld (by rfl) (wanted_plain (by rfl)) (yld_fieldAddr (by rfl) (by exact Try.runUnderlying50) (by rfl) (by exact Try.sizeOf48) (by rfl) (by rfl)) (by rfl) (by decide) (by repeat (first | exact SelL.nil | exact SelL.self | apply SelL.cons | exact Sel.here | apply Sel.there | apply SelL.skip)) ?_
              refine WO.brk0 (by rfl) (wanted_plain (by rfl)) (eff_store (by rfl) (by rfl) (by exact Try.sizeOf48) (by rfl) (by rfl) (by rfl) (by repeat (first | exact .here | apply Sel.there)) (by repeat (first | exact SetAts.nil | apply SetAts.cons | exact SetAt.here | apply SetAt.there))) (by rfl) ?_
              rintro _ -
              try dsimp only
              refine WO.done ?_
              refine WK.seq ?_
              refine WK.region ?_
              refine WL.yld (wanted_plain (by rfl)) (yld_assign (by rfl)) (by rfl) (by decide) ?_
              refine WL.done ?_
              refine WK.sat (fun w s => Sat.allSnoc ((s.sel1 (A := sl false 5 1 pad p.b.length pcap (p.b.map bv)) (by repeat (first | exact .here | apply Sel.there))).bytShut.sel (As := [allR (byt 5 false) hvs (r.held.map (·.2)), byt 5 false (.slice pad p.b.length pcap) p.b]) (by repeat (first | exact SelL.nil | exact SelL.self | apply SelL.cons | exact Sel.here | apply Sel.there | apply SelL.skip)))) ?_
              refine WK.sat (fun w s => ((s.nilSl true 31 1).allNil (Rl := byt 5 false))) ?_
              rw [show heldC r.held hvs ++ [.int .i64 p.seq, .slice pad p.b.length pcap] = heldC (r.held ++ [(p.seq, p.b)]) (hvs ++ [.slice pad p.b.length pcap]) from (heldC_snoc (p.seq, p.b) _ _ _ n5).symm, show r.held.map (·.2) ++ [p.b] = (r.held ++ [(p.seq, p.b)]).map (·.2) from by simp]
              refine WK.seq ?_
              refine WK.block ?_
              refine WK.loop (ι := Int × List (Int × List UInt8) × (Option Addr × Nat × Nat × List Value) × (Option Addr × Nat × Nat × List Value) × List (List UInt8)) (fun (d, h, (_, _, _, hv2), (_, olen, _, _), outs) => h.length = hv2.length ∧ olen = outs.length ∧ r.got ≤ d ∧ d + h.length = r.got + (r.held ++ [(p.seq, p.b)]).length ∧
      outs ++ (deliver h.length d h).1 = (deliver (r.held ++ [(p.seq, p.b)]).length r.got (r.held ++ [(p.seq, p.b)])).1 ∧ (deliver h.length d h).2 = (deliver (r.held ++ [(p.seq, p.b)]).length r.got (r.held ++ [(p.seq, p.b)])).2) (fun (_, _, _, (oad, olen, ocap, _), _) => [(0, .pointer (some ⟨q, 0, none⟩)), (6, .slice oad olen ocap)]) (fun (d, h, (had2, hlen2, hcap2, hv2), (oad, olen, ocap, vs), outs) => allR (byt 5 false) vs outs :: sl true 31 1 oad olen ocap vs :: (refL q { r with acked := max r.acked p.ack, got := d, held := h, owing := true } ⟨sad, slen, scap, svs, had2, hlen2, hcap2, hv2⟩ ++ F)) (fun (_, h, _, _, _) => h.length) ((r.got, (r.held ++ [(p.seq, p.b)]), (ad74, hlen + 1, cap74, hvs ++ [.slice pad p.b.length pcap]), (none, 0, 0, []), [])) (⟨by simp [n5], rfl, Int.le_refl _, by simp, rfl, rfl⟩) (by repeat (first | exact KK.nil | refine KK.cons (by first | rfl | (simp; done)) ?_)) (by (try dsimp only [refL, List.cons_append, List.nil_append]); exact (by repeat (first | exact SelL.nil | exact SelL.self | apply SelL.cons | exact Sel.here | apply Sel.there | apply SelL.skip))) ?_
              rintro ⟨d, h, ⟨had2, hlen2, hcap2, hv2⟩, ⟨oad, olen, ocap, vs⟩, outs⟩ ⟨hk1, hk2, hk3, hk4, hk5, hk6⟩ N hN2
              dsimp only [refL, List.cons_append, List.nil_append] at hk1 hk2 hk3 hk4 hk5 hk6 ⊢
              have hH : (r.held ++ [(p.seq, p.b)]).length = r.held.length + 1 := by simp
              rw [hH] at hk4
              refine WK.know (fun w s => Sat.slLen (s.sel1 (A := sl true 91 2 had2 hlen2 hcap2 (heldC h hv2)) (by repeat (first | exact .here | apply Sel.there)))) (fun hkn => ?_)
              obtain ⟨m1, m0, -⟩ := hkn
              rw [heldC_len hk1] at m1
              have m2 : h.length = hlen2 := by omega
              have hol : outs.length ≤ (r.held ++ [(p.seq, p.b)]).length := by
                have h1 := congrArg List.length hk5
                have h2 := deliver_len (r.held ++ [(p.seq, p.b)]).length r.got (r.held ++ [(p.seq, p.b)])
                simp only [List.length_append] at h1 h2
                simp only [List.length_append]
                omega
              rw [hH] at hol
              refine WK.seq ?_
              refine WK.seq ?_
              refine WK.region ?_
              refine WL.yld (wanted_plain (by rfl)) (yld_move (by rfl)) (by rfl) (by decide) ?_
              refine WL.yld (wanted_plain (by rfl)) (yld_move (by rfl)) (by rfl) (by decide) ?_
              refine WL.yld (wanted_plain (by rfl)) (yld_nilCheck (by rfl)) (by rfl) (by decide) ?_
              refine WL.yld (wanted_plain (by rfl)) (yld_fieldAddr (by rfl) (by exact Try.runUnderlying50) (by rfl) (by exact Try.sizeOf3) (by rfl) (by rfl)) (by rfl) (by decide) ?_
              refine WL.yld (wanted_plain (by rfl)) (yld_load (by rfl) (by exact Try.isAgg3) (by repeat (first | exact .here | apply Sel.there)) (by rfl)) (by rfl) (by decide) ?_
              refine WL.yld (wanted_plain (by rfl)) (yld_add (by rfl) (by rfl) (by first | exact w64 (by omega) (by omega) | rfl)) (by rfl) (by decide) ?_
              refine WL.eff (wanted_plain (by rfl)) (eff_call (by exact Try.call46) (by repeat (first | exact Evs.nil | apply Evs.cons | rfl)) (by repeat (first | exact SelL.nil | exact SelL.self | apply SelL.cons | exact Sel.here | apply Sel.there | apply SelL.skip)) (refFind_spec q r.window (max r.acked p.ack) d sad slen scap had2 hlen2 hcap2 true h hv2 (by omega) (by omega) (d + 1))) (by rfl) (by decide) ?_
              rintro _ -
              try dsimp only
              refine WL.yld (wanted_plain (by rfl)) (yld_geq (by rfl) (by rfl)) (by rfl) (by decide) ?_
              refine WL.done ?_
              refine WK.cond (by rfl) (fun hc84 => ?_) (fun hc84 => ?_)
              · skip
                have hc84 := of_decide_eq_true hc84
                obtain ⟨i, hf⟩ : ∃ i, fi h (d + 1) = some i := by
                  rcases hf : fi h (d + 1) with _ | i
                  · exfalso; unfold findI at hc84; rw [hf] at hc84; simp at hc84
                  · exact ⟨i, rfl⟩
                have hfi : findI h (d + 1) = (i : Int) := by unfold findI; rw [hf]
                obtain ⟨b2, hb1, hb2, hb3⟩ := fi_some hf
                have hi2 : i < h.length := by
                  rcases Nat.lt_or_ge i h.length with h' | h'
                  · exact h'
                  · rw [List.getElem?_eq_none h'] at hb1; cases hb1
                refine WK.openS (fun w s => Sat.allByt (k := i) (bs := b2) (by rw [List.getElem?_map, hb1]; rfl) (s.sel1 (A := allR (byt 5 false) hv2 (h.map (·.2))) (by repeat (first | exact .here | apply Sel.there)))) ?_
                rintro ⟨ad9, len9, cap9⟩ ⟨hv9, hl9⟩
                dsimp only at hv9 hl9
                try dsimp only [List.cons_append, List.nil_append]
                refine WK.skip ?_
                refine WK.block ?_
                refine WK.seq ?_
                refine WK.region ?_
                refine WL.yld (wanted_plain (by rfl)) (yld_move (by rfl)) (by rfl) (by decide) ?_
                refine WL.yld (wanted_plain (by rfl)) (yld_move (by rfl)) (by rfl) (by decide) ?_
                refine WL.yld (wanted_plain (by rfl)) (yld_nilCheck (by rfl)) (by rfl) (by decide) ?_
                refine WL.yld (wanted_plain (by rfl)) (yld_fieldAddr (by rfl) (by exact Try.runUnderlying50) (by rfl) (by exact Try.sizeOf3) (by rfl) (by rfl)) (by rfl) (by decide) ?_
                refine WL.yld (wanted_plain (by rfl)) (yld_load (by rfl) (by exact Try.isAgg3) (by repeat (first | exact .here | apply Sel.there)) (by rfl)) (by rfl) (by decide) ?_
                refine WL.yld (wanted_plain (by rfl)) (yld_add (by rfl) (by rfl) (by first | exact w64 (by omega) (by omega) | rfl)) (by rfl) (by decide) ?_
                refine WL.eff (wanted_plain (by rfl)) (eff_call (by exact Try.call46) (by repeat (first | exact Evs.nil | apply Evs.cons | rfl)) (by repeat (first | exact SelL.nil | exact SelL.self | apply SelL.cons | exact Sel.here | apply Sel.there | apply SelL.skip)) (refFind_spec q r.window (max r.acked p.ack) d sad slen scap had2 hlen2 hcap2 true h hv2 (by omega) (by omega) (d + 1))) (by rfl) (by decide) ?_
                rintro _ -
                try dsimp only
                refine WL.yld (wanted_plain (by rfl)) (yld_assign (by rfl)) (by rfl) (by decide) ?_
                refine WL.done ?_
                refine WK.seq ?_
                refine WK.region ?_
                refine WL.yld (wanted_plain (by rfl)) (yld_move (by rfl)) (by rfl) (by decide) ?_
                refine WL.yld (wanted_plain (by rfl)) (yld_move (by rfl)) (by rfl) (by decide) ?_
                refine WL.yld (wanted_plain (by rfl)) (yld_nilCheck (by rfl)) (by rfl) (by decide) ?_
                refine WL.yld (wanted_plain (by rfl)) (yld_fieldAddr (by rfl) (by exact Try.runUnderlying50) (by rfl) (by exact Try.sizeOf48) (by rfl) (by rfl)) (by rfl) (by decide) ?_
                refine WL.yld (wanted_plain (by rfl)) (yld_load (by rfl) (by exact Try.isAgg48) (by repeat (first | exact .here | apply Sel.there)) (by rfl)) (by rfl) (by decide) ?_
                refine WL.yld (wanted_plain (by rfl)) (yld_move (by rfl)) (by rfl) (by decide) ?_
                refine WL.yld (wanted_plain (by rfl)) (yld_indexAddrS (by rfl) (by rfl) (by exact Try.runUnderlying48) (by exact Try.sizeOf91) (by repeat (first | exact .here | apply Sel.there)) (i) (by first | rfl | omega) (by omega) (by omega) (by rfl)) (by rfl) (by decide) ?_
                refine WL.yld (wanted_plain (by rfl)) (yld_fieldAddrS (by rfl) (by exact Try.runUnderlying91) (by rfl) (by exact Try.sizeOf31) (by rfl) (by rfl)) (by rfl) (by decide) ?_
                refine WL.yld (wanted_plain (by rfl)) (yld_loadS (by rfl) (by exact Try.isAgg31) (by repeat (first | exact .here | apply Sel.there)) (by exact (heldC_cells hb1 hv9).2)) (by rfl) (by decide) ?_
                refine WL.eff (wanted_plain (by rfl)) (eff_mkSlice1 (by rfl) (by rfl) (by exact Try.runUnderlying42) (by exact Try.sizeOf31) (by exact Try.zeroValue31) (by rfl) (by rfl) (by decide) (by rfl)) (by rfl) (by decide) ?_
                rintro b101 -
                try dsimp only
                refine WL.eff (wanted_plain (by rfl)) (eff_append (by rfl) (by rfl) (by exact elem42) (by exact Try.underlying42) (by repeat (first | exact SelL.nil | exact SelL.self | apply SelL.cons | exact Sel.here | apply Sel.there | apply SelL.skip)) (by omega) (by omega)) (by rfl) (by decide) ?_
                rintro ⟨ad102, cap102⟩ -
                try dsimp only
                refine WL.yld (wanted_plain (by rfl)) (yld_assign (by rfl)) (by rfl) (by decide) ?_
                refine WL.done ?_
                refine WK.seq ?_
                refine WK.region ?_
                refine WL.yld (wanted_plain (by rfl)) (yld_assign (by rfl)) (by rfl) (by decide) ?_
                refine WL.done ?_
                refine WK.seq ?_
                refine WK.region ?_
                refine WL.yld (wanted_plain (by rfl)) (yld_move (by rfl)) (by rfl) (by decide) ?_
                refine WL.yld (wanted_plain (by rfl)) (yld_move (by rfl)) (by rfl) (by decide) ?_
                refine WL.yld (wanted_plain (by rfl)) (yld_nilCheck (by rfl)) (by rfl) (by decide) ?_
                refine WL.yld (wanted_plain (by rfl)) (yld_fieldAddr (by rfl) (by exact Try.runUnderlying50) (by rfl) (by exact Try.sizeOf48) (by rfl) (by rfl)) (by rfl) (by decide) ?_
                refine WL.yld (wanted_plain (by rfl)) (yld_load (by rfl) (by exact Try.isAgg48) (by repeat (first | exact .here | apply Sel.there)) (by rfl)) (by rfl) (by decide) ?_
                refine WL.yld (wanted_plain (by rfl)) (yld_move (by rfl)) (by rfl) (by decide) ?_
                refine WL.yld (wanted_plain (by rfl)) (yld_slice_hi (by rfl) (by rfl) (by exact Try.runUnderlying48) (by exact Try.sizeOf91) i (by first | exact hfi | omega) (by omega)) (by rfl) (by decide) ?_
                refine WL.sat (fun w s => s.nilSl true 91 2) ?_
                refine WL.eff (wanted_plain (by rfl)) (eff_appendX (n2 := i) (ys := (heldC h hv2).take (i * 2)) (xs := []) (by rfl) (by rfl) (by exact elem48) (by repeat (first | exact .here | apply Sel.there)) (fun w s => (s.sel1 (A := sl true 91 2 had2 hlen2 hcap2 (heldC h hv2)) (by repeat (first | exact .here | apply Sel.there))).srcHi Try.underlying48 i (by omega)) (by omega) (by omega)) (by rfl) (by decide) ?_
                rintro ⟨ad110, cap110⟩ -
                try dsimp only
                refine WL.yld (wanted_plain (by rfl)) (yld_assign (by rfl)) (by rfl) (by decide) ?_
                refine WL.done ?_
                refine WK.seq ?_
                refine WK.region ?_
                refine WL.yld (wanted_plain (by rfl)) (yld_move (by rfl)) (by rfl) (by decide) ?_
                refine WL.yld (wanted_plain (by rfl)) (yld_move (by rfl)) (by rfl) (by decide) ?_
                refine WL.yld (wanted_plain (by rfl)) (yld_move (by rfl)) (by rfl) (by decide) ?_
                refine WL.yld (wanted_plain (by rfl)) (yld_nilCheck (by rfl)) (by rfl) (by decide) ?_
                refine WL.yld (wanted_plain (by rfl)) (yld_fieldAddr (by rfl) (by exact Try.runUnderlying50) (by rfl) (by exact Try.sizeOf48) (by rfl) (by rfl)) (by rfl) (by decide) ?_
                refine WL.yld (wanted_plain (by rfl)) (yld_load (by rfl) (by exact Try.isAgg48) (by repeat (first | exact .here | apply Sel.there)) (by rfl)) (by rfl) (by decide) ?_
                refine WL.yld (wanted_plain (by rfl)) (yld_move (by rfl)) (by rfl) (by decide) ?_
                refine WL.yld (wanted_plain (by rfl)) (yld_add (by rfl) (by rfl) (show IntKind.i64.wrap (findI h (d + 1) + 1) = ((i + 1 : Nat) : Int) from by rw [hfi]; exact w64 (by omega) (by omega))) (by rfl) (by decide) ?_
                refine WL.yld (wanted_plain (by rfl)) (yld_slice_lo (by rfl) (by rfl) (by exact Try.runUnderlying48) (by exact Try.sizeOf91) (i + 1) (by first | (rw [hfi]; rfl) | omega) (by omega)) (by rfl) (by decide) ?_
                refine WL.eff (wanted_plain (by rfl)) (eff_appendX (n2 := hlen2 - (i + 1)) (ys := (heldC h hv2).drop ((i + 1) * 2)) (xs := [] ++ (heldC h hv2).take (i * 2)) (by rfl) (by rfl) (by exact elem48) (by repeat (first | exact .here | apply Sel.there)) (fun w s => (s.sel1 (A := sl true 91 2 had2 hlen2 hcap2 (heldC h hv2)) (by repeat (first | exact .here | apply Sel.there))).srcLo Try.underlying48 (i + 1) (by omega)) (by omega) (by omega)) (by rfl) (by decide) ?_
                rintro ⟨ad120, cap120⟩ -
                try dsimp only
                refine WL.yld (wanted_plain (by rfl)) (yld_nilCheck (by rfl)) (by rfl) (by decide) ?_
                refine WL.yld (wanted_plain (by rfl)) (yld_fieldAddr (by rfl) (by exact Try.runUnderlying50) (by rfl) (by exact Try.sizeOf48) (by rfl) (by rfl)) (by rfl) (by decide) ?_
                refine WL.eff0 (wanted_plain (by rfl)) (eff_store (by rfl) (by rfl) (by exact Try.sizeOf48) (by rfl) (by rfl) (by rfl) (by repeat (first | exact .here | apply Sel.there)) (by repeat (first | exact SetAts.nil | apply SetAts.cons | exact SetAt.here | apply SetAt.there))) (by rfl) ?_
                rintro _ -
                try dsimp only
                refine WL.done ?_
                refine WK.region ?_
                refine WL.yld (wanted_plain (by rfl)) (yld_move (by rfl)) (by rfl) (by decide) ?_
                refine WL.yld (wanted_plain (by rfl)) (yld_move (by rfl)) (by rfl) (by decide) ?_
                refine WL.yld (wanted_plain (by rfl)) (yld_nilCheck (by rfl)) (by rfl) (by decide) ?_
                refine WL.yld (wanted_plain (by rfl)) (yld_fieldAddr (by rfl) (by exact Try.runUnderlying50) (by rfl) (by exact Try.sizeOf3) (by rfl) (by rfl)) (by rfl) (by decide) ?_
                refine WL.yld (wanted_plain (by rfl)) (yld_load (by rfl) (by exact Try.isAgg3) (by repeat (first | exact .here | apply Sel.there)) (by rfl)) (by rfl) (by decide) ?_
                refine WL.yld (wanted_plain (by rfl)) (yld_add (by rfl) (by rfl) (by first | exact w64 (by omega) (by omega) | rfl)) (by rfl) (by decide) ?_
                refine WL.yld (wanted_plain (by rfl)) (yld_nilCheck (by rfl)) (by rfl) (by decide) ?_
                refine WL.yld (wanted_plain (by rfl)) (yld_fieldAddr (by rfl) (by exact Try.runUnderlying50) (by rfl) (by exact Try.sizeOf3) (by rfl) (by rfl)) (by rfl) (by decide) ?_
                refine WL.eff0 (wanted_plain (by rfl)) (eff_store (by rfl) (by rfl) (by exact Try.sizeOf3) (by rfl) (by rfl) (by rfl) (by repeat (first | exact .here | apply Sel.there)) (by repeat (first | exact SetAts.nil | apply SetAts.cons | exact SetAt.here | apply SetAt.there))) (by rfl) ?_
                rintro _ -
                try dsimp only
                refine WL.done ?_
                refine WK.endBlock ?_
                have hds := deliver_some hb2
                have hml : (mdel h (d + 1)).length + 1 = h.length := by rw [hb3, List.length_eraseIdx, if_pos hi2]; omega
                refine WK.sat (fun w s => Sat.allSnoc ((s.sel1 (A := sl false 5 1 ad9 len9 cap9 (b2.map bv)) (by repeat (first | exact .here | apply Sel.there))).bytShut.sel (As := [allR (byt 5 false) vs outs, byt 5 false (.slice ad9 len9 cap9) b2]) (by repeat (first | exact SelL.nil | exact SelL.self | apply SelL.cons | exact Sel.here | apply Sel.there | apply SelL.skip)))) ?_
                refine WK.sat (fun w s => Sat.allErase i (s.sel1 (A := allR (byt 5 false) hv2 (h.map (·.2))) (by repeat (first | exact .here | apply Sel.there)))) ?_
                rw [List.nil_append, heldC_erase _ _ _ hk1, ← hb3, show (h.map (·.2)).eraseIdx i = (mdel h (d + 1)).map (·.2) from by rw [hb3]; exact map_erase _ h i]
                exact fun a w ka s => hN2 (d + 1, mdel h (d + 1), (ad120, 0 + i + (hlen2 - (i + 1)), cap120, hv2.eraseIdx i), (ad102, olen + 1, cap102, vs ++ [.slice ad9 len9 cap9]), outs ++ [b2]) ⟨by rw [hb3, List.length_eraseIdx, List.length_eraseIdx, hk1], by simp [hk2], by omega, by rw [hH]; omega, by rw [← hk5, hds]; simp, by rw [← hk6, hds]⟩ (by (try dsimp only); omega) a w (ka.keep (by repeat (first | exact KK.nil | refine KK.cons (by first | rfl | (simp; done)) ?_))) (s.toCs (by (try dsimp only [refL, List.cons_append, List.nil_append]); exact (by repeat (first | exact SelL.nil | exact SelL.self | apply SelL.cons | exact Sel.here | apply Sel.there | apply SelL.skip))))
              · skip
                have hc84 := of_decide_eq_false hc84
                refine WK.exit ?_
                repeat (first | refine XQ.then_ ?_ | refine XQ.block (by rfl) ?_)
                refine XQ.here ?_
                refine WK.seq ?_
                refine WK.region ?_
                refine WL.yld (wanted_plain (by rfl)) (yld_move (by rfl)) (by rfl) (by decide) ?_
                refine WL.yld (wanted_plain (by rfl)) (yld_assign (by rfl)) (by rfl) (by decide) ?_
                refine WL.done ?_
                refine WK.ret ?_
                repeat (first | refine RQ.block ?_ | refine RQ.then_ ?_)
                refine RQ.body (results1 (by rfl) (by rfl)) (fun w s => ?_)
                have hf : fi h (d + 1) = none := by
                  rcases hf : fi h (d + 1) with _ | i
                  · rfl
                  · exfalso; unfold findI at hc84; rw [hf] at hc84; simp at hc84
                have hd := deliver_none (fi_none.1 hf) h.length
                have hnf : mget r.held p.seq = none := by
                  apply fi_none.1
                  rcases hf : fi r.held p.seq with _ | i
                  · rfl
                  · exfalso; unfold findI at hc62; rw [hf] at hc62; simp at hc62
                have hm : inR r p = (outs, { ackR r p.ack with owing := true, got := d, held := h }) := by
                  unfold inR
                  rw [if_neg (by rw [hval]; rintro (h | h | h); cases h; omega; omega), if_neg hc45, if_neg (by rintro (h | h); exact hc56 h; exact h hnf)]
                  rw [hd] at hk5 hk6
                  simp only [List.append_nil] at hk5
                  dsimp only
                  rw [← hk5, ← hk6]
                refine ⟨(oad, olen, ocap, vs), by rw [hm]; exact hk2, rfl, ?_⟩
                rw [hm]
                refine Sat.refShut ⟨sad, slen, scap, svs, had2, hlen2, hcap2, hv2⟩ ?_
                dsimp only [refL, ackR, List.cons_append, List.nil_append]
                exact s.toCs (by repeat (first | exact SelL.nil | exact SelL.self | apply SelL.cons | exact Sel.here | apply Sel.there | apply SelL.skip))
end Go.Proofs.Ytnknclbiamhnaaa
