import Derived.Test.YtkakfmcjiabjjaaGreatDoorLotA
namespace Go.Proofs.YtkakfmcjiabjjaaGreatDoor
set_option linter.unusedVariables false
set_option linter.unusedSimpArgs false
set_option linter.unusedSectionVars false
set_option linter.unnecessarySimpa false
open Go Go.Sep
attribute [local irreducible] row sl mapO held exL allR byt mapI slr mapK rangeK vec pack
structure ItemM where
  name : List UInt8
  mixed : Bool
  coin : Bool
def itemC (x : ItemM) : List Value := [.string ⟨x.name.toArray⟩, .bool false, .bool x.mixed, .bool x.coin, .int .i64 0, .int .i64 0, .int .i64 0]
theorem itemC_len : ∀ x, (itemC x).length = 7 := fun _ => rfl
def GoodName (l : List UInt8) : Prop := l ≠ [] ∧ l.length ≤ 16 ∧ ∀ x ∈ l, Low x
def namesM (l : List ItemM) : List (List UInt8 × Value) := l.map fun x => (x.name, .bool true)
theorem namesM_none {l : List ItemM} {k : List UInt8} (h : ∀ x ∈ l, x.name ≠ k) : kget (namesM l) k = none := by
  induction l with
  | nil => rfl
  | cons x l ih =>
    have h1 := h x (by simp)
    have := ih fun y hy => h y (by simp [hy])
    unfold namesM at this ⊢
    simp [kget, h1, this]
theorem names_take {l : List ItemM} {i : Nat} {x : ItemM} (hn : (l.map (·.name)).Nodup) (hx : l[i]? = some x) : kget (namesM (l.take i)) x.name = none := by
  refine namesM_none fun y hy e => ?_
  obtain ⟨j, hj⟩ := List.getElem?_of_mem hy
  have hji : j < i := by
    have := (List.getElem?_eq_some_iff.1 hj).1
    rw [List.length_take] at this
    omega
  rw [List.getElem?_take_of_lt hji] at hj
  have h1 : (l.map (·.name))[j]? = some x.name := by rw [List.getElem?_map, hj, ← e]; rfl
  have h2 : (l.map (·.name))[i]? = some x.name := by rw [List.getElem?_map, hx]; rfl
  have hl : j < (l.map (·.name)).length := (List.getElem?_eq_some_iff.1 h1).1
  have := (List.getElem?_inj hl hn).1 (h1.trans h2.symm)
  omega
theorem namesM_more {l : List ItemM} {i : Nat} {x : ItemM} (hx : l[i]? = some x) : namesM (l.take (i + 1)) = namesM (l.take i) ++ [(x.name, .bool true)] := by
  rw [List.take_add_one, hx]
  simp [namesM]
structure GoodItems (l : List ItemM) : Prop where
  names : ∀ x ∈ l, GoodName x.name
  nodup : (l.map (·.name)).Nodup
  few : l.length ≤ 64
def cat22 : List ItemM := [⟨[103, 111, 108, 100], false, true⟩, ⟨[111, 114, 101], false, false⟩, ⟨[100, 117, 115, 116], true, false⟩, ⟨[103, 101, 109], false, false⟩]
theorem lowAll {l : List UInt8} (h : (l.all fun c => decide (97 ≤ c.toNat) && decide (c.toNat ≤ 122)) = true) : ∀ c ∈ l, Low c := fun c hc => by
  have := List.all_eq_true.1 h c hc
  simpa [Low] using this
theorem cat22_good : GoodItems cat22 := by
  refine ⟨fun x hx => ?_, by decide, by decide⟩
  simp only [cat22, List.mem_cons, List.not_mem_nil, or_false] at hx
  rcases hx with rfl | rfl | rfl | rfl <;> exact ⟨by simp, by simp, lowAll (by decide)⟩
/-- Where the parts of a ledger lie. -/
structure LedW where
  ia : Option Addr
  ic : Nat
  sb : Nat
  ta : Option Addr
  tc : Nat
  fa : Option Addr
  fc : Nat
  sa : Option Addr
  sc : Nat
  ib : Nat
  gb : Nat
def ledRow (sh : Int) (nf ns : Nat) (w : LedW) : List Value :=
  [.int .i64 sh, .slice w.ia 4 w.ic, .slice none 0 0, .slice none 0 0, .slice none 0 0, .map (some w.sb), .slice w.ta 4 w.tc, .slice w.fa nf w.fc, .slice w.sa ns w.sc, .map (some w.ib), .map (some w.gb)]
def plE (k : Int × Int) : Value := .agg #[.int .i64 k.1, .int .i64 k.2]
theorem elem206 : ElemT Tryz.prog 206 28 1 8 := ⟨Tryz.underlying206, ⟨Tryz.t28, _, by kernel_rfl, rfl, rfl, rfl, rfl⟩⟩
theorem places133 (w : World) : ∀ {fs : Array Field}, Tryz.prog.underlying 133 = some (.struct fs) → Sem.run Tryz.prog (fs.mapM fun f => Prod.mk f.offset <$> sizeOf f.type) w = .ok #[(0, 1), (1, 1), (2, 1), (3, 1), (4, 1), (5, 1), (6, 1)] w := by
  intro fs h
  rw [Tryz.underlying133] at h
  cases h
  simp
theorem places97 (w : World) : ∀ {fs : Array Field}, Tryz.prog.underlying 97 = some (.struct fs) → Sem.run Tryz.prog (fs.mapM fun f => Prod.mk f.offset <$> sizeOf f.type) w = .ok #[(0, 1), (1, 1), (2, 1), (3, 1)] w := by
  intro fs h
  rw [Tryz.underlying97] at h
  cases h
  simp
theorem places120 (w : World) : ∀ {fs : Array Field}, Tryz.prog.underlying 120 = some (.struct fs) → Sem.run Tryz.prog (fs.mapM fun f => Prod.mk f.offset <$> sizeOf f.type) w = .ok #[(0, 1), (1, 4), (5, 1), (6, 1), (7, 1), (8, 1), (9, 1), (10, 1)] w := by
  intro fs h
  rw [Tryz.underlying120] at h
  cases h
  simp
set_option maxRecDepth 20000 in
set_option maxHeartbeats 1000000 in
theorem add_spec (f : Nat) (e : Int) :
  Triple Tryz.prog 75 #[.map (some f), .int .i64 e, .bool false] [] (Unit) (fun _ => True) (fun _ => .tuple #[]) (fun _ => []) := by
 refine Triple.of_body (args := [.map (some f), .int .i64 e, .bool false]) Tryz.func75 rfl Tryz.ntmps75 (by simp) (fun g F => ?_)
 dsimp only [numb, List.cons_append, List.nil_append]
 refine WK.seq ?_
 refine WK.region ?_
 refine Ly y_move ?_
 refine WL.done ?_
 refine Kcond (ht := fun h => by cases h) (hf := fun _ => ?_)
 refine WK.skip ?_
 refine WK.fall (results0 (by rfl)) (fun w s => ?_)
 exact ⟨(), trivial, rfl, s⟩
set_option maxRecDepth 20000 in
set_option maxHeartbeats 1000000 in
theorem out_spec (n lo hi : Int) :
  Triple Tryz.prog 118 #[.int .i64 n, .int .i64 lo, .int .i64 hi] [] (Unit) (fun _ => True) (fun _ => .bool (decide (n < lo ∨ hi < n))) (fun _ => []) := by
 refine Triple.of_body (args := [.int .i64 n, .int .i64 lo, .int .i64 hi]) Tryz.func118 rfl Tryz.ntmps118 (by simp) (fun g F => ?_)
 dsimp only [numb, List.cons_append, List.nil_append]
 refine WK.seq ?_
 refine WK.region ?_
 refine Ly y_assign ?_
 refine WL.done ?_
 refine WK.seq ?_
 refine WK.region ?_
 refine Ly y_move ?_
 refine Ly y_move ?_
 refine Ly y_lss ?_
 refine Ly y_move ?_
 refine WL.split (d := 10) (by rfl) (fun hc10 => ?_) (fun hc10 => ?_)
 ·
  have hc10 := of_decide_eq_true hc10
  refine Lz ?_
  refine Lz ?_
  refine Lz ?_
  refine Ly y_pick_true ?_
  refine Ly y_assign ?_
  refine WL.done ?_
  refine WK.ret ?_
  repeat (first | refine RQ.block ?_ | refine RQ.then_ ?_)
  refine RQ.body (results1 (by rfl) (by rfl)) (fun w s => ?_)
  refine ⟨(), trivial, ?_, s⟩
  rw [decide_eq_true (.inl hc10)]
 ·
  have hc10 := of_decide_eq_false hc10
  refine Lyg y_move ?_
  refine Lyg y_move ?_
  refine Lyg y_gtr ?_
  refine Ly y_pick_false ?_
  refine Ly y_assign ?_
  refine WL.done ?_
  refine WK.ret ?_
  repeat (first | refine RQ.block ?_ | refine RQ.then_ ?_)
  refine RQ.body (results1 (by rfl) (by rfl)) (fun w s => ?_)
  refine ⟨(), trivial, ?_, s⟩
  simp [hc10]
set_option maxRecDepth 20000 in
set_option maxHeartbeats 2000000 in
theorem itemF_spec (f : Nat) (x : ItemM) :
  Triple Tryz.prog 77 #[.map (some f), .agg #[.string ⟨x.name.toArray⟩, .bool false, .bool x.mixed, .bool x.coin, .int .i64 0, .int .i64 0, .int .i64 0]] [] (Unit) (fun _ => True) (fun _ => .tuple #[]) (fun _ => []) := by
 refine Triple.of_body (args := [.map (some f), .agg #[.string ⟨x.name.toArray⟩, .bool false, .bool x.mixed, .bool x.coin, .int .i64 0, .int .i64 0, .int .i64 0]]) Tryz.func77 rfl Tryz.ntmps77 (by simp) (fun g F => ?_)
 dsimp only [numb, List.cons_append, List.nil_append]
 refine WK.seq ?_
 refine WK.region ?_
 refine Le e_box ?_
 rintro b3 -
 try dsimp only
 refine WL.done ?_
 refine WK.seq ?_
 refine WK.region ?_
 refine Ly (y_fieldAddr (hu := by exact Tryz.runUnderlying133) (hs := by exact Tryz.sizeOf3)) ?_
 refine Ly (y_load (ha := by exact Tryz.isAgg3)) ?_
 refine Ly y_eql ?_
 refine Ly y_move ?_
 refine Lyg (y_fieldAddr (hu := by exact Tryz.runUnderlying133) (hs := by exact Tryz.sizeOf3)) ?_
 refine Lyg (y_load (ha := by exact Tryz.isAgg3)) ?_
 refine Lyg y_eql ?_
 refine Ly y_pick_true ?_
 refine Ly y_move ?_
 refine Lyg (y_fieldAddr (hu := by exact Tryz.runUnderlying133) (hs := by exact Tryz.sizeOf3)) ?_
 refine Lyg (y_load (ha := by exact Tryz.isAgg3)) ?_
 refine Lyg y_eql ?_
 refine Ly y_pick_true ?_
 refine Ly y_assign ?_
 refine WL.done ?_
 refine WK.seq ?_
 refine WK.region ?_
 refine Ly y_move ?_
 refine Ly (y_fieldAddr (hu := by exact Tryz.runUnderlying133) (hs := by exact Tryz.sizeOf3)) ?_
 refine Ly (y_load (ha := by exact Tryz.isAgg3)) ?_
 refine Le (e_call (by exact Tryz.call118) (t := out_spec 0 0 2)) ?_
 rintro _ -
 try dsimp only
 refine Ly y_move ?_
 refine Lyg (y_fieldAddr (hu := by exact Tryz.runUnderlying133) (hs := by exact Tryz.sizeOf4)) ?_
 refine Lyg (y_load (ha := by exact Tryz.isAgg4)) ?_
 refine Lyg y_move ?_
 refine Lz ?_
 refine Lz ?_
 refine Lz ?_
 refine Lzu ?_
 refine Lzu ?_
 refine Lz ?_
 refine Lyg y_pick_false ?_
 refine Ly y_pick_false ?_
 refine Ly y_move ?_
 refine Lyg (y_fieldAddr (hu := by exact Tryz.runUnderlying133) (hs := by exact Tryz.sizeOf4)) ?_
 refine Lyg (y_load (ha := by exact Tryz.isAgg4)) ?_
 refine Lyg y_not ?_
 refine Lyg y_move ?_
 refine Lyg y_move ?_
 refine Lyg y_not ?_
 refine Lyg y_pick_true ?_
 refine Ly y_pick_false ?_
 refine Le (e_call (by exact Tryz.call75) (t := add_spec f 1)) ?_
 rintro _ -
 try dsimp only
 refine WL.done ?_
 refine WK.region ?_
 refine Ly y_move ?_
 refine Ly (y_fieldAddr (hu := by exact Tryz.runUnderlying133) (hs := by exact Tryz.sizeOf3)) ?_
 refine Ly (y_load (ha := by exact Tryz.isAgg3)) ?_
 refine Le (e_call (by exact Tryz.call118) (t := out_spec 0 0 100)) ?_
 rintro _ -
 try dsimp only
 refine Ly y_move ?_
 refine Lyg (y_fieldAddr (hu := by exact Tryz.runUnderlying133) (hs := by exact Tryz.sizeOf4)) ?_
 refine Lyg (y_load (ha := by exact Tryz.isAgg4)) ?_
 refine Lyg y_move ?_
 refine Lz ?_
 refine Lz ?_
 refine Lz ?_
 refine Lyg y_pick_false ?_
 refine Ly y_pick_false ?_
 refine Le (e_call (by exact Tryz.call75) (t := add_spec f 5)) ?_
 rintro _ -
 try dsimp only
 refine WL.done ?_
 refine WK.fall (results0 (by rfl)) (fun w s => ?_)
 exact ⟨(), trivial, rfl, Sat.drop (l := [_]) s⟩
set_option maxRecDepth 20000 in
set_option maxHeartbeats 1000000 in
theorem fits_spec (nm : List UInt8) (hg : GoodName nm) :
  Triple Tryz.prog 117 #[.string ⟨nm.toArray⟩] [] (Unit) (fun _ => True) (fun _ => .bool true) (fun _ => []) := by
 obtain ⟨hne, hln, hlow⟩ := hg
 obtain ⟨c, r, hnm⟩ : ∃ c r, nm = c :: r := by
   cases nm with
   | nil => exact (hne rfl).elim
   | cons c r => exact ⟨c, r, rfl⟩
 have htok := tokens_spec c r (hnm ▸ hlow) (by rw [hnm, List.length_cons] at hln; omega)
 rw [← hnm] at htok
 refine Triple.of_body (args := [.string ⟨nm.toArray⟩]) Tryz.func117 rfl Tryz.ntmps117 (by simp) (fun g F => ?_)
 dsimp only [numb, List.cons_append, List.nil_append]
 refine WK.seq ?_
 refine WK.region ?_
 refine Ly y_assign ?_
 refine WL.done ?_
 refine WK.seq ?_
 refine WK.region ?_
 refine Ly y_move ?_
 refine Le (e_call (by exact Tryz.call148) (t := htok)) ?_
 rintro ⟨ad8, cap8⟩ -
 try dsimp only
 refine Ly y_move ?_
 refine Ly y_extract ?_
 refine Ly y_extract ?_
 refine Ly y_extract ?_
 refine Ly y_assign ?_
 refine Ly y_assign ?_
 refine Ly y_assign ?_
 refine WL.done ?_
 refine WK.seq ?_
 refine WK.region ?_
 refine Ly y_move ?_
 refine Ly y_eql ?_
 refine Ly y_move ?_
 refine Lyg y_move ?_
 refine Lyg (y_len (hu := by exact Tryz.runUnderlying232)) ?_
 refine Lyg y_eql ?_
 refine Ly y_pick_true ?_
 refine Ly y_move ?_
 refine Lyg y_move ?_
 refine Lyg (y_indexAddrS (hu := by exact Tryz.runUnderlying232) (hz := by exact Tryz.sizeOf236) (j := 0) (hi := by first | rfl | omega) (hj' := by omega) (hj := by omega)) ?_
 refine Lyg (y_fieldAddrS (hu := by exact Tryz.runUnderlying236) (hs := by exact Tryz.sizeOf3)) ?_
 refine Lyg (y_loadS (ha := by exact Tryz.isAgg3)) ?_
 refine Lyg y_eql ?_
 refine Ly y_pick_true ?_
 refine Ly y_move ?_
 refine Lyg y_move ?_
 refine Lyg (y_indexAddrS (hu := by exact Tryz.runUnderlying232) (hz := by exact Tryz.sizeOf236) (j := 0) (hi := by first | rfl | omega) (hj' := by omega) (hj := by omega)) ?_
 refine Lyg (y_fieldAddrS (hu := by exact Tryz.runUnderlying236) (hs := by exact Tryz.sizeOf9)) ?_
 refine Lyg (y_loadS (ha := by exact Tryz.isAgg9)) ?_
 refine Lyg y_move ?_
 refine Lyg y_strEql ?_
 refine Ly y_pick_true ?_
 refine Ly y_assign ?_
 refine WL.done ?_
 refine WK.ret ?_
 repeat (first | refine RQ.block ?_ | refine RQ.then_ ?_)
 refine RQ.body (results1 (by rfl) (by rfl)) (fun w s => ?_)
 refine ⟨(), trivial, ?_, Sat.drop (l := [_]) s⟩
 rw [decide_eq_true rfl]
set_option maxRecDepth 20000 in
set_option maxHeartbeats 1000000 in
theorem nameF_spec (f sb : Nat) (m : List (List UInt8 × Value)) (nm : List UInt8) (hg : GoodName nm) (hk : kget m nm = none) :
  Triple Tryz.prog 76 #[.map (some f), .string ⟨nm.toArray⟩, .map (some sb)] [mapK (fun s : List UInt8 => Value.string ⟨s.toArray⟩) true sb m] (Unit) (fun _ => True) (fun _ => .tuple #[]) (fun _ => [mapK (fun s : List UInt8 => Value.string ⟨s.toArray⟩) true sb (m ++ [(nm, .bool true)])]) := by
 refine Triple.of_body (args := [.map (some f), .string ⟨nm.toArray⟩, .map (some sb)]) Tryz.func76 rfl Tryz.ntmps76 (by simp) (fun g F => ?_)
 dsimp only [numb, List.cons_append, List.nil_append]
 refine WK.seq ?_
 refine WK.region ?_
 refine Ly y_move ?_
 refine Ly y_move ?_
 refine Le (e_call (by exact Tryz.call117) (t := fits_spec nm hg)) ?_
 rintro _ -
 try dsimp only
 refine Ly y_not ?_
 refine Le (e_call (by exact Tryz.call75) (t := add_spec f 6)) ?_
 rintro _ -
 try dsimp only
 refine WL.done ?_
 refine WK.seq ?_
 refine WK.region ?_
 refine Ly y_move ?_
 refine Ly y_move ?_
 refine Ly y_move ?_
 refine Ly (y_lookupK1 (k := nm) (hu := by exact Tryz.runUnderlying152) (L := KeyLaw.str Tryz.runUnderlying9) (hz := by exact Tryz.zeroValue4)) ?_
 rw [hk]
 refine Le (e_call (by exact Tryz.call75) (t := add_spec f 8)) ?_
 rintro _ -
 try dsimp only
 refine WL.done ?_
 refine WK.region ?_
 refine Ly y_move ?_
 refine Ly y_move ?_
 refine Le0 (e_mapUpdateK (k := nm) (hu := by exact Tryz.runUnderlying152) (L := KeyLaw.str Tryz.runUnderlying9)) ?_
 rintro _ -
 try dsimp only
 refine WL.done ?_
 refine WK.fall (results0 (by rfl)) (fun w s => ?_)
 refine ⟨(), trivial, rfl, ?_⟩
 rw [kset_none hk] at s
 exact s
set_option maxRecDepth 20000 in
set_option maxHeartbeats 1000000 in
theorem firstF_spec (f : Nat) (p : Bool) (ad : Option Addr) (len cap : Nat) (codes : List Int) (hlen : len ≤ 1000) :
  Triple Tryz.prog 82 #[.map (some f), .slice ad len cap] [mapK (fun i : Int => Value.int .i64 i) true f [], sl p 28 1 ad len cap (codes.map (Value.int .i64))] (Unit) (fun _ => True) (fun _ => .int .i64 0) (fun _ => [mapK (fun i : Int => Value.int .i64 i) true f [], sl p 28 1 ad len cap (codes.map (Value.int .i64))]) := by
 refine Triple.of_body (args := [.map (some f), .slice ad len cap]) Tryz.func82 rfl Tryz.ntmps82 (by simp) (fun g F => ?_)
 dsimp only [numb, List.cons_append, List.nil_append]
 refine WK.know (fun w s => Sat.slLen (s.sel1 (A := sl p 28 1 ad len cap (codes.map (Value.int .i64))) (by repeat (first | exact .here | apply Sel.there)))) (fun hkn => ?_)
 obtain ⟨n1, -⟩ := hkn
 simp only [Nat.mul_one, List.length_map] at n1
 refine WK.seq ?_
 refine WK.region ?_
 refine Ly y_assign ?_
 refine WL.done ?_
 refine WK.seq ?_
 refine WK.seq ?_
 refine WK.region ?_
 refine Ly y_move ?_
 refine Ly (y_len (hu := by exact Tryz.runUnderlying206)) ?_
 refine Ly y_move ?_
 refine WL.done ?_
 refine WK.block ?_
 refine Kloop (ι := Nat) (fun i => i ≤ len) (fun i => [(0, .map (some f)), (1, .slice ad len cap), (7, .slice ad len cap), (8, .int .i64 (len : Int)), (9, .int .i64 (i : Int))]) (fun i => mapK (fun i : Int => Value.int .i64 i) true f [] :: sl p 28 1 ad len cap (codes.map (Value.int .i64)) :: F) (fun i => len - i) (0) (Nat.zero_le _) (round := ?_)
 rintro i hi N hN
 refine WK.seq ?_
 refine WK.region ?_
 refine Ly y_lss ?_
 refine WL.done ?_
 refine WK.seq ?_
 refine Kcond (ht := fun hc10 => ?_) (hf := fun hc10 => ?_)
 ·
  have hc10 := of_decide_eq_true hc10
  obtain ⟨x, hx⟩ : ∃ x, codes[i]? = some x := ⟨_, List.getElem?_eq_getElem (by omega)⟩
  refine WK.skip ?_
  refine WK.seq ?_
  refine WK.block ?_
  refine WK.seq ?_
  refine WK.region ?_
  refine Ly (y_indexAddrS (hu := by exact Tryz.runUnderlying206) (hz := by exact Tryz.sizeOf28) (j := i) (hi := by first | rfl | omega) (hj' := by omega) (hj := by omega) (hr := by exact Nat.mul_one _)) ?_
  refine Ly (y_loadS (ha := by exact Tryz.isAgg28) (hv := (by rw [List.getElem?_map, hx]; rfl))) ?_
  refine Ly y_assign ?_
  refine WL.done ?_
  refine WK.seq ?_
  refine WK.region ?_
  refine Ly y_move ?_
  refine Ly y_move ?_
  refine Ly (y_lookupK1 (k := x) (hu := by exact Tryz.runUnderlying150) (L := KeyLaw.int Tryz.runUnderlying28) (hz := by exact Tryz.zeroValue4)) ?_
  refine WL.done ?_
  refine Kcond (ht := fun h => by cases h) (hf := fun _ => ?_)
  refine WK.skip ?_
  refine WK.endBlock ?_
  refine WK.region ?_
  refine Ly y_add ?_
  refine Ly y_move ?_
  refine WL.done ?_
  exact Knext hN (i + 1) (by omega) (by omega)
 ·
  have hc10 := of_decide_eq_false hc10
  refine WK.exit ?_
  repeat (first | refine XQ.then_ ?_ | refine XQ.block (by rfl) ?_)
  refine XQ.here ?_
  refine WK.seq ?_
  refine WK.region ?_
  refine Ly y_assign ?_
  refine WL.done ?_
  refine WK.ret ?_
  repeat (first | refine RQ.block ?_ | refine RQ.then_ ?_)
  refine RQ.body (results1 (by rfl) (by rfl)) (fun w s => ?_)
  exact ⟨(), trivial, rfl, s.toCs (by repeat (first | exact SelL.nil | exact SelL.self | apply SelL.cons | exact Sel.here | apply Sel.there | apply SelL.skip))⟩
set_option maxRecDepth 20000 in
set_option maxHeartbeats 3000000 in
theorem catValid_spec (p : Bool) (ad : Option Addr) (len cap : Nat) (l : List ItemM) (hlen : len ≤ 1000000) (hg : GoodItems l) :
  Triple Tryz.prog 62 #[.agg #[.slice ad len cap, .slice none 0 0, .slice none 0 0, .slice none 0 0]] [sl p 133 7 ad len cap (flat itemC l)] (Unit) (fun _ => True) (fun _ => .int .i64 0) (fun _ => [sl p 133 7 ad len cap (flat itemC l)]) := by
 refine Triple.of_body (args := [.agg #[.slice ad len cap, .slice none 0 0, .slice none 0 0, .slice none 0 0]]) Tryz.func62 rfl Tryz.ntmps62 (by simp) (fun g F => ?_)
 dsimp only [numb, List.cons_append, List.nil_append]
 refine WK.know (fun w s => Sat.slLen (s.sel1 (A := sl p 133 7 ad len cap (flat itemC l)) (by repeat (first | exact .here | apply Sel.there)))) (fun hkn => ?_)
 obtain ⟨n1, -⟩ := hkn
 rw [flat_len itemC_len] at n1
 replace n1 : l.length = _ := Nat.eq_of_mul_eq_mul_right (by omega) n1
 have hfew := hg.few
 refine WK.seq ?_
 refine WK.region ?_
 refine Le e_box ?_
 rintro b1 -
 try dsimp only
 refine Ly y_assign ?_
 refine WL.done ?_
 refine WK.seq ?_
 refine WK.region ?_
 refine Le e_makeMap ?_
 rintro b16 -
 try dsimp only
 refine Ly y_assign ?_
 refine WL.done ?_
 refine WK.sat (fun w s => Sat.mapKNew (enc := (fun i : Int => Value.int .i64 i)) (s.sel1 (A := mapO true b16 [] 0) (by repeat (first | exact .here | apply Sel.there)))) ?_
 refine WK.seq ?_
 refine WK.region ?_
 refine Ly y_move ?_
 refine Ly (y_fieldAddr (hu := by exact Tryz.runUnderlying97) (hs := by exact Tryz.sizeOf92)) ?_
 refine Ly (y_load (ha := by exact Tryz.isAgg92)) ?_
 refine Ly (y_len (hu := by exact Tryz.runUnderlying92)) ?_
 refine Ly y_gtr ?_
 refine Ly y_move ?_
 refine WL.split (d := 22) (by rfl) (fun hc22 => ?_) (fun hc22 => ?_)
 ·
  have hc22 := of_decide_eq_true hc22
  omega
 ·
  have hc22 := of_decide_eq_false hc22
  refine Lyg (y_fieldAddr (hu := by exact Tryz.runUnderlying97) (hs := by exact Tryz.sizeOf93)) ?_
  refine Lyg (y_load (ha := by exact Tryz.isAgg93)) ?_
  refine Lyg (y_len (hu := by exact Tryz.runUnderlying93)) ?_
  refine Lyg y_gtr ?_
  refine Ly y_pick_false ?_
  refine Ly y_move ?_
  refine Lyg (y_fieldAddr (hu := by exact Tryz.runUnderlying97) (hs := by exact Tryz.sizeOf94)) ?_
  refine Lyg (y_load (ha := by exact Tryz.isAgg94)) ?_
  refine Lyg (y_len (hu := by exact Tryz.runUnderlying94)) ?_
  refine Lyg y_gtr ?_
  refine Ly y_pick_false ?_
  refine Ly y_move ?_
  refine Lyg (y_fieldAddr (hu := by exact Tryz.runUnderlying97) (hs := by exact Tryz.sizeOf95)) ?_
  refine Lyg (y_load (ha := by exact Tryz.isAgg95)) ?_
  refine Lyg (y_len (hu := by exact Tryz.runUnderlying95)) ?_
  refine Lyg y_gtr ?_
  refine Ly y_pick_false ?_
  refine Le (e_call (by exact Tryz.call75) (t := add_spec b16 4)) ?_
  rintro _ -
  try dsimp only
  refine WL.done ?_
  refine WK.seq ?_
  refine WK.region ?_
  refine Ly (y_fieldAddr (hu := by exact Tryz.runUnderlying97) (hs := by exact Tryz.sizeOf92)) ?_
  refine Ly (y_load (ha := by exact Tryz.isAgg92)) ?_
  refine Ly (y_len (hu := by exact Tryz.runUnderlying92)) ?_
  refine Ly y_assign ?_
  refine WL.done ?_
  refine WK.seq ?_
  refine WK.region ?_
  refine Le e_makeMap ?_
  rintro b44 -
  try dsimp only
  refine Ly y_assign ?_
  refine WL.done ?_
  refine WK.sat (fun w s => Sat.mapKNew (enc := (fun s : List UInt8 => Value.string ⟨s.toArray⟩)) (s.sel1 (A := mapO true b44 [] 0) (by repeat (first | exact .here | apply Sel.there)))) ?_
  refine WK.seq ?_
  refine WK.seq ?_
  refine WK.region ?_
  refine Ly (y_fieldAddr (hu := by exact Tryz.runUnderlying97) (hs := by exact Tryz.sizeOf92)) ?_
  refine Ly (y_load (ha := by exact Tryz.isAgg92)) ?_
  refine Ly (y_len (hu := by exact Tryz.runUnderlying92)) ?_
  refine Ly y_move ?_
  refine WL.done ?_
  refine WK.block ?_
  refine Kloop (ι := Nat) (fun i => i ≤ len) (fun i => [(1, .pointer (some ⟨b1, 0, none⟩)), (3, .map (some b16)), (4, .int .i64 (len : Int)), (5, .map (some b44)), (46, .slice ad len cap), (47, .int .i64 (len : Int)), (48, .int .i64 (i : Int))]) (fun i => mapK (fun i : Int => Value.int .i64 i) true b16 [] :: mapK (fun s : List UInt8 => Value.string ⟨s.toArray⟩) true b44 (namesM (l.take i)) :: row true b1 97 [.slice ad len cap, .slice none 0 0, .slice none 0 0, .slice none 0 0] :: sl p 133 7 ad len cap (flat itemC l) :: F) (fun i => len - i) (0) (Nat.zero_le _) (round := ?_)
  rintro i hi N hN
  refine WK.seq ?_
  refine WK.region ?_
  refine Ly y_lss ?_
  refine WL.done ?_
  refine WK.seq ?_
  refine Kcond (ht := fun hc49 => ?_) (hf := fun hc49 => ?_)
  ·
   have hc49 := of_decide_eq_true hc49
   obtain ⟨x, hx⟩ : ∃ x, l[i]? = some x := ⟨_, List.getElem?_eq_getElem (by omega)⟩
   refine WK.skip ?_
   refine WK.seq ?_
   refine WK.block ?_
   refine WK.seq ?_
   refine WK.region ?_
   refine Ly (y_indexAddrS (hu := by exact Tryz.runUnderlying92) (hz := by exact Tryz.sizeOf133) (j := i) (hi := by first | rfl | omega) (hj' := by omega) (hj := by omega)) ?_
   refine Ly (y_loadSA (ha := by exact Tryz.isAgg133) (hm := by exact Tryz.sizeOf133) (hv := by exact flat_cells itemC_len hx)) ?_
   refine Le (e_alloc (by exact Tryz.zeroValue133)) ?_
   rintro b7 -
   try dsimp only
   refine Le0 (e_store (hk := by exact Tryz.sizeOf133) (h1 := by rfl)) ?_
   rintro _ -
   try dsimp only
   refine WL.done ?_
   refine WK.seq ?_
   refine WK.region ?_
   refine Ly y_move ?_
   refine Ly (y_fieldAddr (hu := by exact Tryz.runUnderlying133) (hs := by exact Tryz.sizeOf9)) ?_
   refine Ly (y_load (ha := by exact Tryz.isAgg9)) ?_
   refine Ly y_move ?_
   refine Le (e_call (by exact Tryz.call76) (t := nameF_spec b16 b44 (namesM (l.take i)) x.name (hg.names x (List.mem_of_getElem? hx)) (names_take hg.nodup hx))) ?_
   rintro _ -
   try dsimp only
   refine WL.done ?_
   refine WK.region ?_
   refine Ly y_move ?_
   refine Ly (y_loadA (ha := by exact Tryz.isAgg133) (hk := by exact Tryz.sizeOf133)) ?_
   refine Le (e_call (by exact Tryz.call77) (t := itemF_spec b16 x)) ?_
   rintro _ -
   try dsimp only
   refine WL.done ?_
   refine WK.endBlock ?_
   refine WK.region ?_
   refine Ly y_add ?_
   refine Ly y_move ?_
   refine WL.done ?_
   apply WK.next hN (i + 1) (by omega) (by omega) (by repeat (first | exact KK.nil | refine KK.cons (by first | rfl | (simp; done)) ?_))
   rw [namesM_more hx]
   exact (by repeat (first | exact SelL.nil | exact SelL.self | apply SelL.cons | exact Sel.here | apply Sel.there | apply SelL.skip))
  ·
   have hc49 := of_decide_eq_false hc49
   refine WK.exit ?_
   repeat (first | refine XQ.then_ ?_ | refine XQ.block (by rfl) ?_)
   refine XQ.here ?_
   refine WK.seq ?_
   refine WK.region ?_
   refine Le e_makeMap ?_
   rintro b61 -
   try dsimp only
   refine Ly y_assign ?_
   refine WL.done ?_
   refine WK.seq ?_
   refine WK.seq ?_
   refine WK.region ?_
   refine Ly (y_fieldAddr (hu := by exact Tryz.runUnderlying97) (hs := by exact Tryz.sizeOf93)) ?_
   refine Ly (y_load (ha := by exact Tryz.isAgg93)) ?_
   refine Ly (y_len (hu := by exact Tryz.runUnderlying93)) ?_
   refine Ly y_move ?_
   refine WL.done ?_
   refine WK.block ?_
   refine Kloop (ι := Unit) (fun _ => True) (fun _ => [(1, .pointer (some ⟨b1, 0, none⟩)), (3, .map (some b16)), (4, .int .i64 (len : Int)), (63, .slice none 0 0), (64, .int .i64 ((0 : Nat) : Int)), (65, .int .i64 0)]) (fun _ => mapK (fun i : Int => Value.int .i64 i) true b16 [] :: row true b1 97 [.slice ad len cap, .slice none 0 0, .slice none 0 0, .slice none 0 0] :: sl p 133 7 ad len cap (flat itemC l) :: F) (fun _ => 0) (()) (trivial) (round := ?_)
   rintro _ - N hN
   refine WK.seq ?_
   refine WK.region ?_
   refine Ly y_lss ?_
   refine WL.done ?_
   refine WK.seq ?_
   refine Kcond (ht := fun hc66 => ?_) (hf := fun hc66 => ?_)
   ·
    have hc66 := of_decide_eq_true hc66
    exfalso
    first | omega | (simp at hc66; done) | (simp at hc66; omega) | (simp_all; done) | (simp_all; omega)
   ·
    have hc66 := of_decide_eq_false hc66
    refine WK.exit ?_
    repeat (first | refine XQ.then_ ?_ | refine XQ.block (by rfl) ?_)
    refine XQ.here ?_
    refine WK.seq ?_
    refine WK.region ?_
    refine Le e_makeMap ?_
    rintro b93 -
    try dsimp only
    refine Ly y_assign ?_
    refine WL.done ?_
    refine WK.seq ?_
    refine WK.seq ?_
    refine WK.region ?_
    refine Ly (y_fieldAddr (hu := by exact Tryz.runUnderlying97) (hs := by exact Tryz.sizeOf94)) ?_
    refine Ly (y_load (ha := by exact Tryz.isAgg94)) ?_
    refine Ly (y_len (hu := by exact Tryz.runUnderlying94)) ?_
    refine Ly y_move ?_
    refine WL.done ?_
    refine WK.block ?_
    refine Kloop (ι := Unit) (fun _ => True) (fun _ => [(1, .pointer (some ⟨b1, 0, none⟩)), (3, .map (some b16)), (4, .int .i64 (len : Int)), (95, .slice none 0 0), (96, .int .i64 ((0 : Nat) : Int)), (97, .int .i64 0)]) (fun _ => mapK (fun i : Int => Value.int .i64 i) true b16 [] :: row true b1 97 [.slice ad len cap, .slice none 0 0, .slice none 0 0, .slice none 0 0] :: sl p 133 7 ad len cap (flat itemC l) :: F) (fun _ => 0) (()) (trivial) (round := ?_)
    rintro _ - N hN
    refine WK.seq ?_
    refine WK.region ?_
    refine Ly y_lss ?_
    refine WL.done ?_
    refine WK.seq ?_
    refine Kcond (ht := fun hc98 => ?_) (hf := fun hc98 => ?_)
    ·
     have hc98 := of_decide_eq_true hc98
     exfalso
     first | omega | (simp at hc98; done) | (simp at hc98; omega) | (simp_all; done) | (simp_all; omega)
    ·
     have hc98 := of_decide_eq_false hc98
     refine WK.exit ?_
     repeat (first | refine XQ.then_ ?_ | refine XQ.block (by rfl) ?_)
     refine XQ.here ?_
     refine WK.seq ?_
     refine WK.region ?_
     refine Le e_makeMap ?_
     rintro b123 -
     try dsimp only
     refine Ly y_assign ?_
     refine WL.done ?_
     refine WK.seq ?_
     refine WK.seq ?_
     refine WK.region ?_
     refine Ly (y_fieldAddr (hu := by exact Tryz.runUnderlying97) (hs := by exact Tryz.sizeOf95)) ?_
     refine Ly (y_load (ha := by exact Tryz.isAgg95)) ?_
     refine Ly (y_len (hu := by exact Tryz.runUnderlying95)) ?_
     refine Ly y_move ?_
     refine WL.done ?_
     refine WK.block ?_
     refine Kloop (ι := Unit) (fun _ => True) (fun _ => [(1, .pointer (some ⟨b1, 0, none⟩)), (3, .map (some b16)), (4, .int .i64 (len : Int)), (125, .slice none 0 0), (126, .int .i64 ((0 : Nat) : Int)), (127, .int .i64 0)]) (fun _ => mapK (fun i : Int => Value.int .i64 i) true b16 [] :: row true b1 97 [.slice ad len cap, .slice none 0 0, .slice none 0 0, .slice none 0 0] :: sl p 133 7 ad len cap (flat itemC l) :: F) (fun _ => 0) (()) (trivial) (round := ?_)
     rintro _ - N hN
     refine WK.seq ?_
     refine WK.region ?_
     refine Ly y_lss ?_
     refine WL.done ?_
     refine WK.seq ?_
     refine Kcond (ht := fun hc128 => ?_) (hf := fun hc128 => ?_)
     ·
      have hc128 := of_decide_eq_true hc128
      exfalso
      first | omega | (simp at hc128; done) | (simp at hc128; omega) | (simp_all; done) | (simp_all; omega)
     ·
      have hc128 := of_decide_eq_false hc128
      refine WK.exit ?_
      repeat (first | refine XQ.then_ ?_ | refine XQ.block (by rfl) ?_)
      refine XQ.here ?_
      refine WK.seq ?_
      refine WK.region ?_
      refine Ly y_move ?_
      refine Le (e_mkSliceN (by exact Tryz.runUnderlying206) (by exact Tryz.sizeOf28) (by exact Tryz.zeroValue28) (hb := by decide) (hk0 := by rfl) (hl0 := by rfl) (h1 := by rfl)) ?_
      rintro b141 -
      try dsimp only [List.cons_append, List.nil_append]
      try dsimp only
      refine Le (e_call (by exact Tryz.call82) (t := (firstF_spec b16 true (some ⟨b141, 0, none⟩) 5 5 [4, 6, 8, 1, 5] (by decide)))) ?_
      rintro _ -
      try dsimp only
      refine Ly y_assign ?_
      refine WL.done ?_
      refine WK.ret ?_
      repeat (first | refine RQ.block ?_ | refine RQ.then_ ?_)
      refine RQ.body (results1 (by rfl) (by rfl)) (fun w s => ?_)
      exact ⟨(), trivial, rfl, s.toCs (by repeat (first | exact SelL.nil | exact SelL.self | apply SelL.cons | exact Sel.here | apply Sel.there | apply SelL.skip))⟩
set_option maxRecDepth 20000 in
set_option maxHeartbeats 6000000 in
theorem ledNew_spec (p : Bool) (ad : Option Addr) (cap : Nat) (l : List ItemM) (hg : GoodItems l) (sh : Int) (hsh : 0 ≤ sh ∧ sh < 12) :
  Triple Tryz.prog 37 #[.int .i64 sh, .agg #[.slice ad 4 cap, .slice none 0 0, .slice none 0 0, .slice none 0 0]] [sl p 133 7 ad 4 cap (flat itemC l)] (Nat × LedW) (fun x => x.2.ia = ad ∧ x.2.ic = cap ∧ x.2.fa = none ∧ x.2.fc = 0 ∧ x.2.sa = none ∧ x.2.sc = 0) (fun x => .tuple #[.pointer (some ⟨x.1, 0, none⟩), .int .i64 0]) (fun x => [row true x.1 120 (ledRow sh 0 0 x.2), sl p 133 7 ad 4 cap (flat itemC l), mapO true x.2.sb [] 0, sl true 3 1 x.2.ta 4 x.2.tc [.int .i64 0, .int .i64 0, .int .i64 0, .int .i64 0], mapO true x.2.ib [] 0, mapO true x.2.gb [] 0]) := by
 refine Triple.of_body (args := [.int .i64 sh, .agg #[.slice ad 4 cap, .slice none 0 0, .slice none 0 0, .slice none 0 0]]) Tryz.func37 rfl Tryz.ntmps37 (by simp) (fun g F => ?_)
 dsimp only [numb, List.cons_append, List.nil_append]
 refine WK.seq ?_
 refine WK.region ?_
 refine Le e_box ?_
 rintro b3 -
 try dsimp only
 refine Ly y_assign ?_
 refine Ly y_assign ?_
 refine WL.done ?_
 refine WK.seq ?_
 refine WK.seq ?_
 refine WK.region ?_
 refine Ly y_move ?_
 refine Ly y_lss ?_
 refine Ly y_move ?_
 refine WL.split (d := 9) (by rfl) (fun hc9 => ?_) (fun hc9 => ?_)
 ·
  have hc9 := of_decide_eq_true hc9
  exfalso
  first | omega | (simp at hc9; done) | (simp at hc9; omega) | (simp_all; done) | (simp_all; omega)
 ·
  have hc9 := of_decide_eq_false hc9
  refine Lyg y_move ?_
  refine Lyg y_geq ?_
  refine Ly y_pick_false ?_
  refine WL.done ?_
  refine Kcond (ht := fun hc12 => ?_) (hf := fun hc12 => ?_)
  ·
   have hc12 := of_decide_eq_true hc12
   exfalso
   first | omega | (simp at hc12; done) | (simp at hc12; omega) | (simp_all; done) | (simp_all; omega)
  ·
   have hc12 := of_decide_eq_false hc12
   refine WK.skip ?_
   refine WK.seq ?_
   refine WK.seq ?_
   refine WK.region ?_
   refine Ly (y_loadA (ha := by exact Tryz.isAgg97) (hk := by exact Tryz.sizeOf97)) ?_
   refine Le (e_call (by exact Tryz.call62) (t := catValid_spec p ad 4 cap l (by decide) hg)) ?_
   rintro _ -
   try dsimp only
   refine Ly y_assign ?_
   refine WL.done ?_
   refine WK.seq ?_
   refine WK.region ?_
   refine Ly y_move ?_
   refine Ly y_neq ?_
   refine WL.done ?_
   refine Kcond (ht := fun h => by cases h) (hf := fun _ => ?_)
   refine WK.skip ?_
   refine WK.seq ?_
   refine WK.cut (ι := Nat × LedW) (fun x => x.2.ia = ad ∧ x.2.ic = cap ∧ x.2.fa = none ∧ x.2.fc = 0 ∧ x.2.sa = none ∧ x.2.sc = 0) (fun x => [(4, .pointer (some ⟨x.1, 0, none⟩)), (5, .int .i64 0)]) (fun x => row true x.1 120 (ledRow sh 0 0 x.2) :: sl p 133 7 ad 4 cap (flat itemC l) :: mapO true x.2.sb [] 0 :: sl true 3 1 x.2.ta 4 x.2.tc [.int .i64 0, .int .i64 0, .int .i64 0, .int .i64 0] :: mapO true x.2.ib [] 0 :: mapO true x.2.gb [] 0 :: F) ?_ ?_
   ·
    rintro ⟨q, W⟩ hW
    obtain ⟨e1, e2, e3, e4, e5, e6⟩ := hW
    dsimp only at e1 e2 e3 e4 e5 e6 ⊢
    refine WK.ret ?_
    repeat (first | refine RQ.block ?_ | refine RQ.then_ ?_)
    refine RQ.body (results2 (by rfl) (by rfl) (by rfl)) (fun w s => ?_)
    exact ⟨(q, W), ⟨e1, e2, e3, e4, e5, e6⟩, rfl, s.toCs (by repeat (first | exact SelL.nil | exact SelL.self | apply SelL.cons | exact Sel.here | apply Sel.there | apply SelL.skip))⟩
   ·
    intro JR6
    refine KdrT (t := OT.q 0 (OT.q 1 (OT.q 3 (OT.q 4 (OT.q 5 (OT.alt 2 (OT.alt 6 (OT.alt 7 (OT.e 8 (OT.q 9 (OT.e 10 (OT.q 11 (OT.q 12 OT.done))))) (OT.alt 8 (OT.e 7 (OT.q 9 (OT.e 10 (OT.q 11 (OT.q 12 OT.done))))) OT.stop)) (OT.alt 7 (OT.alt 6 (OT.e 8 (OT.q 9 (OT.e 10 (OT.q 11 (OT.q 12 OT.done))))) (OT.alt 8 (OT.e 6 (OT.q 9 (OT.e 10 (OT.q 11 (OT.q 12 OT.done))))) OT.stop)) (OT.alt 8 (OT.alt 6 (OT.e 7 (OT.q 9 (OT.e 10 (OT.q 11 (OT.q 12 OT.done))))) (OT.alt 7 (OT.e 6 (OT.q 9 (OT.e 10 (OT.q 11 (OT.q 12 OT.done))))) OT.stop)) OT.stop))) (OT.alt 6 (OT.alt 2 (OT.alt 7 (OT.e 8 (OT.q 9 (OT.e 10 (OT.q 11 (OT.q 12 OT.done))))) (OT.alt 8 (OT.e 7 (OT.q 9 (OT.e 10 (OT.q 11 (OT.q 12 OT.done))))) OT.stop)) (OT.alt 7 (OT.alt 2 (OT.e 8 (OT.q 9 (OT.e 10 (OT.q 11 (OT.q 12 OT.done))))) (OT.alt 8 (OT.e 2 (OT.q 9 (OT.e 10 (OT.q 11 (OT.q 12 OT.done))))) OT.stop)) (OT.alt 8 (OT.alt 2 (OT.e 7 (OT.q 9 (OT.e 10 (OT.q 11 (OT.q 12 OT.done))))) (OT.alt 7 (OT.e 2 (OT.q 9 (OT.e 10 (OT.q 11 (OT.q 12 OT.done))))) OT.stop)) OT.stop))) (OT.alt 7 (OT.alt 2 (OT.alt 6 (OT.e 8 (OT.q 9 (OT.e 10 (OT.q 11 (OT.q 12 OT.done))))) (OT.alt 8 (OT.e 6 (OT.q 9 (OT.e 10 (OT.q 11 (OT.q 12 OT.done))))) OT.stop)) (OT.alt 6 (OT.alt 2 (OT.e 8 (OT.q 9 (OT.e 10 (OT.q 11 (OT.q 12 OT.done))))) (OT.alt 8 (OT.e 2 (OT.q 9 (OT.e 10 (OT.q 11 (OT.q 12 OT.done))))) OT.stop)) (OT.alt 8 (OT.alt 2 (OT.e 6 (OT.q 9 (OT.e 10 (OT.q 11 (OT.q 12 OT.done))))) (OT.alt 6 (OT.e 2 (OT.q 9 (OT.e 10 (OT.q 11 (OT.q 12 OT.done))))) OT.stop)) OT.stop))) (OT.alt 8 (OT.alt 2 (OT.alt 6 (OT.e 7 (OT.q 9 (OT.e 10 (OT.q 11 (OT.q 12 OT.done))))) (OT.alt 7 (OT.e 6 (OT.q 9 (OT.e 10 (OT.q 11 (OT.q 12 OT.done))))) OT.stop)) (OT.alt 6 (OT.alt 2 (OT.e 7 (OT.q 9 (OT.e 10 (OT.q 11 (OT.q 12 OT.done))))) (OT.alt 7 (OT.e 2 (OT.q 9 (OT.e 10 (OT.q 11 (OT.q 12 OT.done))))) OT.stop)) (OT.alt 7 (OT.alt 2 (OT.e 6 (OT.q 9 (OT.e 10 (OT.q 11 (OT.q 12 OT.done))))) (OT.alt 6 (OT.e 2 (OT.q 9 (OT.e 10 (OT.q 11 (OT.q 12 OT.done))))) OT.stop)) OT.stop))) OT.stop))))))))) (Cs := [row true b3 97 [.slice ad 4 cap, .slice none 0 0, .slice none 0 0, .slice none 0 0]]) (h := ?_)
    refine Ty (y := y_move) (h := ?_)
    refine Ty (y := y_loadA (ha := by exact Tryz.isAgg97) (hk := by exact Tryz.sizeOf97)) (h := ?_)
    refine Ty (y := y_fieldAddr (hu := by exact Tryz.runUnderlying97) (hs := by exact Tryz.sizeOf92)) (h := ?_)
    refine Ty (y := y_load (ha := by exact Tryz.isAgg92)) (h := ?_)
    refine Ty (y := y_len (hu := by exact Tryz.runUnderlying92)) (h := ?_)
    refine WT.alt ?_ ?_
    ·
     refine Te (e := e_makeMap) (h := ?_)
     rintro b20 -
     try dsimp only
     refine WT.alt ?_ ?_
     ·
      refine Te (e := e_makeSlice1 (hu := by exact Tryz.runUnderlying22) (hti := by exact Tryz.typeInfo3) (hz := by rfl) (hzc := by rfl) (hz1 := by rfl) (hb := by decide) (hn := by decide) (hn0 := by decide)) (h := ?_)
      rintro b24 -
      try dsimp only
      refine WT.alt ?_ ?_
      ·
       refine Te (e := e_makeMap) (h := ?_)
       rintro b25 -
       try dsimp only
       refine Te (e := e_makeMap) (h := ?_)
       rintro b26 -
       try dsimp only
       refine Ty (y := y_build (hz := by exact Tryz.zeroValue120) (hu := by exact Tryz.runUnderlying120) (hp := by exact fun w => places120 w Tryz.underlying120) (hne := by first | decide | simp)) (h := ?_)
       refine Te (e := e_box) (h := ?_)
       rintro b28 -
       try dsimp only
       refine Ty (y := y_assign) (h := ?_)
       refine Ty (y := y_assign) (h := ?_)
       refine WT.done ?_
       exact Kgoto JR6 (b28, ⟨ad, cap, b20, some ⟨b24, 0, none⟩, 4, none, 0, none, 0, b25, b26⟩) ⟨rfl, rfl, rfl, rfl, rfl, rfl⟩
      refine WT.alt ?_ ?_
      ·
       refine Te (e := e_makeMap) (h := ?_)
       rintro b26 -
       try dsimp only
       refine Te (e := e_makeMap) (h := ?_)
       rintro b25 -
       try dsimp only
       refine Ty (y := y_build (hz := by exact Tryz.zeroValue120) (hu := by exact Tryz.runUnderlying120) (hp := by exact fun w => places120 w Tryz.underlying120) (hne := by first | decide | simp)) (h := ?_)
       refine Te (e := e_box) (h := ?_)
       rintro b28 -
       try dsimp only
       refine Ty (y := y_assign) (h := ?_)
       refine Ty (y := y_assign) (h := ?_)
       refine WT.done ?_
       exact Kgoto JR6 (b28, ⟨ad, cap, b20, some ⟨b24, 0, none⟩, 4, none, 0, none, 0, b25, b26⟩) ⟨rfl, rfl, rfl, rfl, rfl, rfl⟩
      exact WT.stop
     refine WT.alt ?_ ?_
     ·
      refine Te (e := e_makeMap) (h := ?_)
      rintro b25 -
      try dsimp only
      refine WT.alt ?_ ?_
      ·
       refine Te (e := e_makeSlice1 (hu := by exact Tryz.runUnderlying22) (hti := by exact Tryz.typeInfo3) (hz := by rfl) (hzc := by rfl) (hz1 := by rfl) (hb := by decide) (hn := by decide) (hn0 := by decide)) (h := ?_)
       rintro b24 -
       try dsimp only
       refine Te (e := e_makeMap) (h := ?_)
       rintro b26 -
       try dsimp only
       refine Ty (y := y_build (hz := by exact Tryz.zeroValue120) (hu := by exact Tryz.runUnderlying120) (hp := by exact fun w => places120 w Tryz.underlying120) (hne := by first | decide | simp)) (h := ?_)
       refine Te (e := e_box) (h := ?_)
       rintro b28 -
       try dsimp only
       refine Ty (y := y_assign) (h := ?_)
       refine Ty (y := y_assign) (h := ?_)
       refine WT.done ?_
       exact Kgoto JR6 (b28, ⟨ad, cap, b20, some ⟨b24, 0, none⟩, 4, none, 0, none, 0, b25, b26⟩) ⟨rfl, rfl, rfl, rfl, rfl, rfl⟩
      refine WT.alt ?_ ?_
      ·
       refine Te (e := e_makeMap) (h := ?_)
       rintro b26 -
       try dsimp only
       refine Te (e := e_makeSlice1 (hu := by exact Tryz.runUnderlying22) (hti := by exact Tryz.typeInfo3) (hz := by rfl) (hzc := by rfl) (hz1 := by rfl) (hb := by decide) (hn := by decide) (hn0 := by decide)) (h := ?_)
       rintro b24 -
       try dsimp only
       refine Ty (y := y_build (hz := by exact Tryz.zeroValue120) (hu := by exact Tryz.runUnderlying120) (hp := by exact fun w => places120 w Tryz.underlying120) (hne := by first | decide | simp)) (h := ?_)
       refine Te (e := e_box) (h := ?_)
       rintro b28 -
       try dsimp only
       refine Ty (y := y_assign) (h := ?_)
       refine Ty (y := y_assign) (h := ?_)
       refine WT.done ?_
       exact Kgoto JR6 (b28, ⟨ad, cap, b20, some ⟨b24, 0, none⟩, 4, none, 0, none, 0, b25, b26⟩) ⟨rfl, rfl, rfl, rfl, rfl, rfl⟩
      exact WT.stop
     refine WT.alt ?_ ?_
     ·
      refine Te (e := e_makeMap) (h := ?_)
      rintro b26 -
      try dsimp only
      refine WT.alt ?_ ?_
      ·
       refine Te (e := e_makeSlice1 (hu := by exact Tryz.runUnderlying22) (hti := by exact Tryz.typeInfo3) (hz := by rfl) (hzc := by rfl) (hz1 := by rfl) (hb := by decide) (hn := by decide) (hn0 := by decide)) (h := ?_)
       rintro b24 -
       try dsimp only
       refine Te (e := e_makeMap) (h := ?_)
       rintro b25 -
       try dsimp only
       refine Ty (y := y_build (hz := by exact Tryz.zeroValue120) (hu := by exact Tryz.runUnderlying120) (hp := by exact fun w => places120 w Tryz.underlying120) (hne := by first | decide | simp)) (h := ?_)
       refine Te (e := e_box) (h := ?_)
       rintro b28 -
       try dsimp only
       refine Ty (y := y_assign) (h := ?_)
       refine Ty (y := y_assign) (h := ?_)
       refine WT.done ?_
       exact Kgoto JR6 (b28, ⟨ad, cap, b20, some ⟨b24, 0, none⟩, 4, none, 0, none, 0, b25, b26⟩) ⟨rfl, rfl, rfl, rfl, rfl, rfl⟩
      refine WT.alt ?_ ?_
      ·
       refine Te (e := e_makeMap) (h := ?_)
       rintro b25 -
       try dsimp only
       refine Te (e := e_makeSlice1 (hu := by exact Tryz.runUnderlying22) (hti := by exact Tryz.typeInfo3) (hz := by rfl) (hzc := by rfl) (hz1 := by rfl) (hb := by decide) (hn := by decide) (hn0 := by decide)) (h := ?_)
       rintro b24 -
       try dsimp only
       refine Ty (y := y_build (hz := by exact Tryz.zeroValue120) (hu := by exact Tryz.runUnderlying120) (hp := by exact fun w => places120 w Tryz.underlying120) (hne := by first | decide | simp)) (h := ?_)
       refine Te (e := e_box) (h := ?_)
       rintro b28 -
       try dsimp only
       refine Ty (y := y_assign) (h := ?_)
       refine Ty (y := y_assign) (h := ?_)
       refine WT.done ?_
       exact Kgoto JR6 (b28, ⟨ad, cap, b20, some ⟨b24, 0, none⟩, 4, none, 0, none, 0, b25, b26⟩) ⟨rfl, rfl, rfl, rfl, rfl, rfl⟩
      exact WT.stop
     exact WT.stop
    refine WT.alt ?_ ?_
    ·
     refine Te (e := e_makeSlice1 (hu := by exact Tryz.runUnderlying22) (hti := by exact Tryz.typeInfo3) (hz := by rfl) (hzc := by rfl) (hz1 := by rfl) (hb := by decide) (hn := by decide) (hn0 := by decide)) (h := ?_)
     rintro b24 -
     try dsimp only
     refine WT.alt ?_ ?_
     ·
      refine Te (e := e_makeMap) (h := ?_)
      rintro b20 -
      try dsimp only
      refine WT.alt ?_ ?_
      ·
       refine Te (e := e_makeMap) (h := ?_)
       rintro b25 -
       try dsimp only
       refine Te (e := e_makeMap) (h := ?_)
       rintro b26 -
       try dsimp only
       refine Ty (y := y_build (hz := by exact Tryz.zeroValue120) (hu := by exact Tryz.runUnderlying120) (hp := by exact fun w => places120 w Tryz.underlying120) (hne := by first | decide | simp)) (h := ?_)
       refine Te (e := e_box) (h := ?_)
       rintro b28 -
       try dsimp only
       refine Ty (y := y_assign) (h := ?_)
       refine Ty (y := y_assign) (h := ?_)
       refine WT.done ?_
       exact Kgoto JR6 (b28, ⟨ad, cap, b20, some ⟨b24, 0, none⟩, 4, none, 0, none, 0, b25, b26⟩) ⟨rfl, rfl, rfl, rfl, rfl, rfl⟩
      refine WT.alt ?_ ?_
      ·
       refine Te (e := e_makeMap) (h := ?_)
       rintro b26 -
       try dsimp only
       refine Te (e := e_makeMap) (h := ?_)
       rintro b25 -
       try dsimp only
       refine Ty (y := y_build (hz := by exact Tryz.zeroValue120) (hu := by exact Tryz.runUnderlying120) (hp := by exact fun w => places120 w Tryz.underlying120) (hne := by first | decide | simp)) (h := ?_)
       refine Te (e := e_box) (h := ?_)
       rintro b28 -
       try dsimp only
       refine Ty (y := y_assign) (h := ?_)
       refine Ty (y := y_assign) (h := ?_)
       refine WT.done ?_
       exact Kgoto JR6 (b28, ⟨ad, cap, b20, some ⟨b24, 0, none⟩, 4, none, 0, none, 0, b25, b26⟩) ⟨rfl, rfl, rfl, rfl, rfl, rfl⟩
      exact WT.stop
     refine WT.alt ?_ ?_
     ·
      refine Te (e := e_makeMap) (h := ?_)
      rintro b25 -
      try dsimp only
      refine WT.alt ?_ ?_
      ·
       refine Te (e := e_makeMap) (h := ?_)
       rintro b20 -
       try dsimp only
       refine Te (e := e_makeMap) (h := ?_)
       rintro b26 -
       try dsimp only
       refine Ty (y := y_build (hz := by exact Tryz.zeroValue120) (hu := by exact Tryz.runUnderlying120) (hp := by exact fun w => places120 w Tryz.underlying120) (hne := by first | decide | simp)) (h := ?_)
       refine Te (e := e_box) (h := ?_)
       rintro b28 -
       try dsimp only
       refine Ty (y := y_assign) (h := ?_)
       refine Ty (y := y_assign) (h := ?_)
       refine WT.done ?_
       exact Kgoto JR6 (b28, ⟨ad, cap, b20, some ⟨b24, 0, none⟩, 4, none, 0, none, 0, b25, b26⟩) ⟨rfl, rfl, rfl, rfl, rfl, rfl⟩
      refine WT.alt ?_ ?_
      ·
       refine Te (e := e_makeMap) (h := ?_)
       rintro b26 -
       try dsimp only
       refine Te (e := e_makeMap) (h := ?_)
       rintro b20 -
       try dsimp only
       refine Ty (y := y_build (hz := by exact Tryz.zeroValue120) (hu := by exact Tryz.runUnderlying120) (hp := by exact fun w => places120 w Tryz.underlying120) (hne := by first | decide | simp)) (h := ?_)
       refine Te (e := e_box) (h := ?_)
       rintro b28 -
       try dsimp only
       refine Ty (y := y_assign) (h := ?_)
       refine Ty (y := y_assign) (h := ?_)
       refine WT.done ?_
       exact Kgoto JR6 (b28, ⟨ad, cap, b20, some ⟨b24, 0, none⟩, 4, none, 0, none, 0, b25, b26⟩) ⟨rfl, rfl, rfl, rfl, rfl, rfl⟩
      exact WT.stop
     refine WT.alt ?_ ?_
     ·
      refine Te (e := e_makeMap) (h := ?_)
      rintro b26 -
      try dsimp only
      refine WT.alt ?_ ?_
      ·
       refine Te (e := e_makeMap) (h := ?_)
       rintro b20 -
       try dsimp only
       refine Te (e := e_makeMap) (h := ?_)
       rintro b25 -
       try dsimp only
       refine Ty (y := y_build (hz := by exact Tryz.zeroValue120) (hu := by exact Tryz.runUnderlying120) (hp := by exact fun w => places120 w Tryz.underlying120) (hne := by first | decide | simp)) (h := ?_)
       refine Te (e := e_box) (h := ?_)
       rintro b28 -
       try dsimp only
       refine Ty (y := y_assign) (h := ?_)
       refine Ty (y := y_assign) (h := ?_)
       refine WT.done ?_
       exact Kgoto JR6 (b28, ⟨ad, cap, b20, some ⟨b24, 0, none⟩, 4, none, 0, none, 0, b25, b26⟩) ⟨rfl, rfl, rfl, rfl, rfl, rfl⟩
      refine WT.alt ?_ ?_
      ·
       refine Te (e := e_makeMap) (h := ?_)
       rintro b25 -
       try dsimp only
       refine Te (e := e_makeMap) (h := ?_)
       rintro b20 -
       try dsimp only
       refine Ty (y := y_build (hz := by exact Tryz.zeroValue120) (hu := by exact Tryz.runUnderlying120) (hp := by exact fun w => places120 w Tryz.underlying120) (hne := by first | decide | simp)) (h := ?_)
       refine Te (e := e_box) (h := ?_)
       rintro b28 -
       try dsimp only
       refine Ty (y := y_assign) (h := ?_)
       refine Ty (y := y_assign) (h := ?_)
       refine WT.done ?_
       exact Kgoto JR6 (b28, ⟨ad, cap, b20, some ⟨b24, 0, none⟩, 4, none, 0, none, 0, b25, b26⟩) ⟨rfl, rfl, rfl, rfl, rfl, rfl⟩
      exact WT.stop
     exact WT.stop
    refine WT.alt ?_ ?_
    ·
     refine Te (e := e_makeMap) (h := ?_)
     rintro b25 -
     try dsimp only
     refine WT.alt ?_ ?_
     ·
      refine Te (e := e_makeMap) (h := ?_)
      rintro b20 -
      try dsimp only
      refine WT.alt ?_ ?_
      ·
       refine Te (e := e_makeSlice1 (hu := by exact Tryz.runUnderlying22) (hti := by exact Tryz.typeInfo3) (hz := by rfl) (hzc := by rfl) (hz1 := by rfl) (hb := by decide) (hn := by decide) (hn0 := by decide)) (h := ?_)
       rintro b24 -
       try dsimp only
       refine Te (e := e_makeMap) (h := ?_)
       rintro b26 -
       try dsimp only
       refine Ty (y := y_build (hz := by exact Tryz.zeroValue120) (hu := by exact Tryz.runUnderlying120) (hp := by exact fun w => places120 w Tryz.underlying120) (hne := by first | decide | simp)) (h := ?_)
       refine Te (e := e_box) (h := ?_)
       rintro b28 -
       try dsimp only
       refine Ty (y := y_assign) (h := ?_)
       refine Ty (y := y_assign) (h := ?_)
       refine WT.done ?_
       exact Kgoto JR6 (b28, ⟨ad, cap, b20, some ⟨b24, 0, none⟩, 4, none, 0, none, 0, b25, b26⟩) ⟨rfl, rfl, rfl, rfl, rfl, rfl⟩
      refine WT.alt ?_ ?_
      ·
       refine Te (e := e_makeMap) (h := ?_)
       rintro b26 -
       try dsimp only
       refine Te (e := e_makeSlice1 (hu := by exact Tryz.runUnderlying22) (hti := by exact Tryz.typeInfo3) (hz := by rfl) (hzc := by rfl) (hz1 := by rfl) (hb := by decide) (hn := by decide) (hn0 := by decide)) (h := ?_)
       rintro b24 -
       try dsimp only
       refine Ty (y := y_build (hz := by exact Tryz.zeroValue120) (hu := by exact Tryz.runUnderlying120) (hp := by exact fun w => places120 w Tryz.underlying120) (hne := by first | decide | simp)) (h := ?_)
       refine Te (e := e_box) (h := ?_)
       rintro b28 -
       try dsimp only
       refine Ty (y := y_assign) (h := ?_)
       refine Ty (y := y_assign) (h := ?_)
       refine WT.done ?_
       exact Kgoto JR6 (b28, ⟨ad, cap, b20, some ⟨b24, 0, none⟩, 4, none, 0, none, 0, b25, b26⟩) ⟨rfl, rfl, rfl, rfl, rfl, rfl⟩
      exact WT.stop
     refine WT.alt ?_ ?_
     ·
      refine Te (e := e_makeSlice1 (hu := by exact Tryz.runUnderlying22) (hti := by exact Tryz.typeInfo3) (hz := by rfl) (hzc := by rfl) (hz1 := by rfl) (hb := by decide) (hn := by decide) (hn0 := by decide)) (h := ?_)
      rintro b24 -
      try dsimp only
      refine WT.alt ?_ ?_
      ·
       refine Te (e := e_makeMap) (h := ?_)
       rintro b20 -
       try dsimp only
       refine Te (e := e_makeMap) (h := ?_)
       rintro b26 -
       try dsimp only
       refine Ty (y := y_build (hz := by exact Tryz.zeroValue120) (hu := by exact Tryz.runUnderlying120) (hp := by exact fun w => places120 w Tryz.underlying120) (hne := by first | decide | simp)) (h := ?_)
       refine Te (e := e_box) (h := ?_)
       rintro b28 -
       try dsimp only
       refine Ty (y := y_assign) (h := ?_)
       refine Ty (y := y_assign) (h := ?_)
       refine WT.done ?_
       exact Kgoto JR6 (b28, ⟨ad, cap, b20, some ⟨b24, 0, none⟩, 4, none, 0, none, 0, b25, b26⟩) ⟨rfl, rfl, rfl, rfl, rfl, rfl⟩
      refine WT.alt ?_ ?_
      ·
       refine Te (e := e_makeMap) (h := ?_)
       rintro b26 -
       try dsimp only
       refine Te (e := e_makeMap) (h := ?_)
       rintro b20 -
       try dsimp only
       refine Ty (y := y_build (hz := by exact Tryz.zeroValue120) (hu := by exact Tryz.runUnderlying120) (hp := by exact fun w => places120 w Tryz.underlying120) (hne := by first | decide | simp)) (h := ?_)
       refine Te (e := e_box) (h := ?_)
       rintro b28 -
       try dsimp only
       refine Ty (y := y_assign) (h := ?_)
       refine Ty (y := y_assign) (h := ?_)
       refine WT.done ?_
       exact Kgoto JR6 (b28, ⟨ad, cap, b20, some ⟨b24, 0, none⟩, 4, none, 0, none, 0, b25, b26⟩) ⟨rfl, rfl, rfl, rfl, rfl, rfl⟩
      exact WT.stop
     refine WT.alt ?_ ?_
     ·
      refine Te (e := e_makeMap) (h := ?_)
      rintro b26 -
      try dsimp only
      refine WT.alt ?_ ?_
      ·
       refine Te (e := e_makeMap) (h := ?_)
       rintro b20 -
       try dsimp only
       refine Te (e := e_makeSlice1 (hu := by exact Tryz.runUnderlying22) (hti := by exact Tryz.typeInfo3) (hz := by rfl) (hzc := by rfl) (hz1 := by rfl) (hb := by decide) (hn := by decide) (hn0 := by decide)) (h := ?_)
       rintro b24 -
       try dsimp only
       refine Ty (y := y_build (hz := by exact Tryz.zeroValue120) (hu := by exact Tryz.runUnderlying120) (hp := by exact fun w => places120 w Tryz.underlying120) (hne := by first | decide | simp)) (h := ?_)
       refine Te (e := e_box) (h := ?_)
       rintro b28 -
       try dsimp only
       refine Ty (y := y_assign) (h := ?_)
       refine Ty (y := y_assign) (h := ?_)
       refine WT.done ?_
       exact Kgoto JR6 (b28, ⟨ad, cap, b20, some ⟨b24, 0, none⟩, 4, none, 0, none, 0, b25, b26⟩) ⟨rfl, rfl, rfl, rfl, rfl, rfl⟩
      refine WT.alt ?_ ?_
      ·
       refine Te (e := e_makeSlice1 (hu := by exact Tryz.runUnderlying22) (hti := by exact Tryz.typeInfo3) (hz := by rfl) (hzc := by rfl) (hz1 := by rfl) (hb := by decide) (hn := by decide) (hn0 := by decide)) (h := ?_)
       rintro b24 -
       try dsimp only
       refine Te (e := e_makeMap) (h := ?_)
       rintro b20 -
       try dsimp only
       refine Ty (y := y_build (hz := by exact Tryz.zeroValue120) (hu := by exact Tryz.runUnderlying120) (hp := by exact fun w => places120 w Tryz.underlying120) (hne := by first | decide | simp)) (h := ?_)
       refine Te (e := e_box) (h := ?_)
       rintro b28 -
       try dsimp only
       refine Ty (y := y_assign) (h := ?_)
       refine Ty (y := y_assign) (h := ?_)
       refine WT.done ?_
       exact Kgoto JR6 (b28, ⟨ad, cap, b20, some ⟨b24, 0, none⟩, 4, none, 0, none, 0, b25, b26⟩) ⟨rfl, rfl, rfl, rfl, rfl, rfl⟩
      exact WT.stop
     exact WT.stop
    refine WT.alt ?_ ?_
    ·
     refine Te (e := e_makeMap) (h := ?_)
     rintro b26 -
     try dsimp only
     refine WT.alt ?_ ?_
     ·
      refine Te (e := e_makeMap) (h := ?_)
      rintro b20 -
      try dsimp only
      refine WT.alt ?_ ?_
      ·
       refine Te (e := e_makeSlice1 (hu := by exact Tryz.runUnderlying22) (hti := by exact Tryz.typeInfo3) (hz := by rfl) (hzc := by rfl) (hz1 := by rfl) (hb := by decide) (hn := by decide) (hn0 := by decide)) (h := ?_)
       rintro b24 -
       try dsimp only
       refine Te (e := e_makeMap) (h := ?_)
       rintro b25 -
       try dsimp only
       refine Ty (y := y_build (hz := by exact Tryz.zeroValue120) (hu := by exact Tryz.runUnderlying120) (hp := by exact fun w => places120 w Tryz.underlying120) (hne := by first | decide | simp)) (h := ?_)
       refine Te (e := e_box) (h := ?_)
       rintro b28 -
       try dsimp only
       refine Ty (y := y_assign) (h := ?_)
       refine Ty (y := y_assign) (h := ?_)
       refine WT.done ?_
       exact Kgoto JR6 (b28, ⟨ad, cap, b20, some ⟨b24, 0, none⟩, 4, none, 0, none, 0, b25, b26⟩) ⟨rfl, rfl, rfl, rfl, rfl, rfl⟩
      refine WT.alt ?_ ?_
      ·
       refine Te (e := e_makeMap) (h := ?_)
       rintro b25 -
       try dsimp only
       refine Te (e := e_makeSlice1 (hu := by exact Tryz.runUnderlying22) (hti := by exact Tryz.typeInfo3) (hz := by rfl) (hzc := by rfl) (hz1 := by rfl) (hb := by decide) (hn := by decide) (hn0 := by decide)) (h := ?_)
       rintro b24 -
       try dsimp only
       refine Ty (y := y_build (hz := by exact Tryz.zeroValue120) (hu := by exact Tryz.runUnderlying120) (hp := by exact fun w => places120 w Tryz.underlying120) (hne := by first | decide | simp)) (h := ?_)
       refine Te (e := e_box) (h := ?_)
       rintro b28 -
       try dsimp only
       refine Ty (y := y_assign) (h := ?_)
       refine Ty (y := y_assign) (h := ?_)
       refine WT.done ?_
       exact Kgoto JR6 (b28, ⟨ad, cap, b20, some ⟨b24, 0, none⟩, 4, none, 0, none, 0, b25, b26⟩) ⟨rfl, rfl, rfl, rfl, rfl, rfl⟩
      exact WT.stop
     refine WT.alt ?_ ?_
     ·
      refine Te (e := e_makeSlice1 (hu := by exact Tryz.runUnderlying22) (hti := by exact Tryz.typeInfo3) (hz := by rfl) (hzc := by rfl) (hz1 := by rfl) (hb := by decide) (hn := by decide) (hn0 := by decide)) (h := ?_)
      rintro b24 -
      try dsimp only
      refine WT.alt ?_ ?_
      ·
       refine Te (e := e_makeMap) (h := ?_)
       rintro b20 -
       try dsimp only
       refine Te (e := e_makeMap) (h := ?_)
       rintro b25 -
       try dsimp only
       refine Ty (y := y_build (hz := by exact Tryz.zeroValue120) (hu := by exact Tryz.runUnderlying120) (hp := by exact fun w => places120 w Tryz.underlying120) (hne := by first | decide | simp)) (h := ?_)
       refine Te (e := e_box) (h := ?_)
       rintro b28 -
       try dsimp only
       refine Ty (y := y_assign) (h := ?_)
       refine Ty (y := y_assign) (h := ?_)
       refine WT.done ?_
       exact Kgoto JR6 (b28, ⟨ad, cap, b20, some ⟨b24, 0, none⟩, 4, none, 0, none, 0, b25, b26⟩) ⟨rfl, rfl, rfl, rfl, rfl, rfl⟩
      refine WT.alt ?_ ?_
      ·
       refine Te (e := e_makeMap) (h := ?_)
       rintro b25 -
       try dsimp only
       refine Te (e := e_makeMap) (h := ?_)
       rintro b20 -
       try dsimp only
       refine Ty (y := y_build (hz := by exact Tryz.zeroValue120) (hu := by exact Tryz.runUnderlying120) (hp := by exact fun w => places120 w Tryz.underlying120) (hne := by first | decide | simp)) (h := ?_)
       refine Te (e := e_box) (h := ?_)
       rintro b28 -
       try dsimp only
       refine Ty (y := y_assign) (h := ?_)
       refine Ty (y := y_assign) (h := ?_)
       refine WT.done ?_
       exact Kgoto JR6 (b28, ⟨ad, cap, b20, some ⟨b24, 0, none⟩, 4, none, 0, none, 0, b25, b26⟩) ⟨rfl, rfl, rfl, rfl, rfl, rfl⟩
      exact WT.stop
     refine WT.alt ?_ ?_
     ·
      refine Te (e := e_makeMap) (h := ?_)
      rintro b25 -
      try dsimp only
      refine WT.alt ?_ ?_
      ·
       refine Te (e := e_makeMap) (h := ?_)
       rintro b20 -
       try dsimp only
       refine Te (e := e_makeSlice1 (hu := by exact Tryz.runUnderlying22) (hti := by exact Tryz.typeInfo3) (hz := by rfl) (hzc := by rfl) (hz1 := by rfl) (hb := by decide) (hn := by decide) (hn0 := by decide)) (h := ?_)
       rintro b24 -
       try dsimp only
       refine Ty (y := y_build (hz := by exact Tryz.zeroValue120) (hu := by exact Tryz.runUnderlying120) (hp := by exact fun w => places120 w Tryz.underlying120) (hne := by first | decide | simp)) (h := ?_)
       refine Te (e := e_box) (h := ?_)
       rintro b28 -
       try dsimp only
       refine Ty (y := y_assign) (h := ?_)
       refine Ty (y := y_assign) (h := ?_)
       refine WT.done ?_
       exact Kgoto JR6 (b28, ⟨ad, cap, b20, some ⟨b24, 0, none⟩, 4, none, 0, none, 0, b25, b26⟩) ⟨rfl, rfl, rfl, rfl, rfl, rfl⟩
      refine WT.alt ?_ ?_
      ·
       refine Te (e := e_makeSlice1 (hu := by exact Tryz.runUnderlying22) (hti := by exact Tryz.typeInfo3) (hz := by rfl) (hzc := by rfl) (hz1 := by rfl) (hb := by decide) (hn := by decide) (hn0 := by decide)) (h := ?_)
       rintro b24 -
       try dsimp only
       refine Te (e := e_makeMap) (h := ?_)
       rintro b20 -
       try dsimp only
       refine Ty (y := y_build (hz := by exact Tryz.zeroValue120) (hu := by exact Tryz.runUnderlying120) (hp := by exact fun w => places120 w Tryz.underlying120) (hne := by first | decide | simp)) (h := ?_)
       refine Te (e := e_box) (h := ?_)
       rintro b28 -
       try dsimp only
       refine Ty (y := y_assign) (h := ?_)
       refine Ty (y := y_assign) (h := ?_)
       refine WT.done ?_
       exact Kgoto JR6 (b28, ⟨ad, cap, b20, some ⟨b24, 0, none⟩, 4, none, 0, none, 0, b25, b26⟩) ⟨rfl, rfl, rfl, rfl, rfl, rfl⟩
      exact WT.stop
     exact WT.stop
    exact WT.stop
set_option maxRecDepth 20000 in
set_option maxHeartbeats 1000000 in
theorem cat22_spec  :
  Triple Tryz.prog 38 #[] [] (Option Addr × Nat) (fun _ => True) (fun x => .agg #[.slice x.1 4 x.2, .slice none 0 0, .slice none 0 0, .slice none 0 0]) (fun x => [sl true 133 7 x.1 4 x.2 (flat itemC cat22)]) := by
 refine Triple.of_body (args := []) Tryz.func38 rfl Tryz.ntmps38 (by simp) (fun g F => ?_)
 dsimp only [numb, List.cons_append, List.nil_append]
 refine WK.seq ?_
 refine WK.region ?_
 refine Le (e_alloc (by exact Tryz.zeroValue97)) ?_
 rintro b0 -
 try dsimp only
 refine WL.done ?_
 refine WK.seq ?_
 refine WK.region ?_
 refine Ly (y_build (hz := by exact Tryz.zeroValue133) (hu := by exact Tryz.runUnderlying133) (hp := by exact fun w => places133 w Tryz.underlying133) (hne := by first | decide | simp)) ?_
 refine Ly (y_build (hz := by exact Tryz.zeroValue133) (hu := by exact Tryz.runUnderlying133) (hp := by exact fun w => places133 w Tryz.underlying133) (hne := by first | decide | simp)) ?_
 refine Ly (y_build (hz := by exact Tryz.zeroValue133) (hu := by exact Tryz.runUnderlying133) (hp := by exact fun w => places133 w Tryz.underlying133) (hne := by first | decide | simp)) ?_
 refine Ly (y_build (hz := by exact Tryz.zeroValue133) (hu := by exact Tryz.runUnderlying133) (hp := by exact fun w => places133 w Tryz.underlying133) (hne := by first | decide | simp)) ?_
 refine Le (e_mkSliceN (by exact Tryz.runUnderlying92) (by exact Tryz.sizeOf133) (by exact Tryz.zeroValue133) (hb := by decide) (hk0 := by rfl) (hl0 := by rfl) (h1 := by rfl)) ?_
 rintro b5 -
 try dsimp only [List.cons_append, List.nil_append]
 try dsimp only
 refine Ly (y_build (hz := by exact Tryz.zeroValue97) (hu := by exact Tryz.runUnderlying97) (hp := by exact fun w => places97 w Tryz.underlying97) (hne := by first | decide | simp)) ?_
 refine Le0 (e_store (hk := by exact Tryz.sizeOf97) (h1 := by rfl)) ?_
 rintro _ -
 try dsimp only
 refine WL.done ?_
 refine WK.ret ?_
 repeat (first | refine RQ.block ?_ | refine RQ.then_ ?_)
 refine RQ.body (resultsC1 (by rfl) (by rfl) (by exact Tryz.isAgg97) (by exact Tryz.sizeOf97) (by repeat (first | exact .here | apply Sel.there)) (by repeat (first | exact Cells.nil | apply Cells.cons | rfl))) (fun w s => ?_)
 exact ⟨(some ⟨b5, 0, none⟩, 4), trivial, rfl, s.toCs (by repeat (first | exact SelL.nil | exact SelL.self | apply SelL.cons | exact Sel.here | apply Sel.there | apply SelL.skip))⟩
end Go.Proofs.YtkakfmcjiabjjaaGreatDoor
