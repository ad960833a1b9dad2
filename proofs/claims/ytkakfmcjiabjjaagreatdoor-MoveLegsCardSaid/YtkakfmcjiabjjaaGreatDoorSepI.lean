/- Pointers against nil, bytes and strings, slices that came in, literals of several elements, and the step to the statement. -/
import Derived.Test.YtkakfmcjiabjjaaGreatDoorSepG
import Derived.Laws.BytesString
namespace Go.Sep
set_option linter.unusedVariables false
set_option linter.unusedSimpArgs false
set_option linter.unusedSectionVars false
set_option linter.unnecessarySimpa false
open Go
variable [Rnd]

/-- A slice that only is read, wherever it lies. -/
def slr (sz : Nat) (ad : Option Addr) (len : Nat) (xs : List Value) : HProp := fun h =>
  (xs.length = len * sz ∧ (∀ v ∈ xs, v.oneCell' = true)) ∧ ((xs = [] ∧ h = Hp.empty) ∨
    ∃ b o, ∃ c : Array Value, ∃ t fz, (ad = some ⟨b, o, none⟩ ∧ ∀ j v, xs[j]? = some v → c[o + j]? = some v) ∧ held false b (.cells c t fz) h)

theorem dup_slr (sz : Nat) (ad : Option Addr) (len : Nat) (xs : List Value) : Dup (slr sz ad len xs) := by
  rintro h ⟨_, ⟨_, e⟩ | ⟨b, o, c, t, fz, _, e⟩⟩ k x hx
  · subst e; cases hx
  · exact dup_ro _ _ h e k x hx

section
variable {P : Program} {g : World} {n : Nat} {K : List (Nat × Value)} {Ps R : List HProp} {d : Option Tmp} {T : TypeId} {pos : String} {af : Array Edge} {gd : Option (Nat × Bool)} {w : World}

/-! ### Pointers against nil -/

theorem run_eqlPtrNil {t e : TypeId} {a : Addr} (hu : ∀ w, Sem.run P (underlying t) w = .ok (.pointer e) w) (w : World) : (Op.equal t (.pointer (some a)) (.pointer none)).run P w = .ok false w := by
  have key : ∀ k, (Op.equalIn (k + 1) t (.pointer (some a)) (.pointer none)).run P w = .ok false w := fun k => by
    unfold Op.equalIn
    simp [hu]
  exact key 9999
theorem run_eqlNilNil {t e : TypeId} (hu : ∀ w, Sem.run P (underlying t) w = .ok (.pointer e) w) (w : World) : (Op.equal t (.pointer none) (.pointer none)).run P w = .ok true w := by
  have key : ∀ k, (Op.equalIn (k + 1) t (.pointer none) (.pointer none)).run P w = .ok true w := fun k => by
    unfold Op.equalIn
    simp [hu]
  exact key 9999
theorem yld_eqlPtr {t u e : TypeId} {x y : Operand} {a : Addr} (hx : ev K x = some (.pointer (some a))) (hy : ev K y = some (.pointer none)) (hu : ∀ w, Sem.run P (underlying t) w = .ok (.pointer e) w) : Yld P g n ⟨d, .binOp .eql t x y u, T, pos, af, gd⟩ K Ps (.bool false) :=
  yld_bin hx hy fun w => by simp [eqGuard, binOp, run_eqlPtrNil hu]
theorem yld_eqlPtr0 {t u e : TypeId} {x y : Operand} (hx : ev K x = some (.pointer none)) (hy : ev K y = some (.pointer none)) (hu : ∀ w, Sem.run P (underlying t) w = .ok (.pointer e) w) : Yld P g n ⟨d, .binOp .eql t x y u, T, pos, af, gd⟩ K Ps (.bool true) :=
  yld_bin hx hy fun w => by simp [eqGuard, binOp, run_eqlNilNil hu]
theorem yld_neqPtr {t u e : TypeId} {x y : Operand} {a : Addr} (hx : ev K x = some (.pointer (some a))) (hy : ev K y = some (.pointer none)) (hu : ∀ w, Sem.run P (underlying t) w = .ok (.pointer e) w) : Yld P g n ⟨d, .binOp .neq t x y u, T, pos, af, gd⟩ K Ps (.bool true) :=
  yld_bin hx hy fun w => by simp [eqGuard, binOp, run_eqlPtrNil hu]
theorem yld_neqPtr0 {t u e : TypeId} {x y : Operand} (hx : ev K x = some (.pointer none)) (hy : ev K y = some (.pointer none)) (hu : ∀ w, Sem.run P (underlying t) w = .ok (.pointer e) w) : Yld P g n ⟨d, .binOp .neq t x y u, T, pos, af, gd⟩ K Ps (.bool false) :=
  yld_bin hx hy fun w => by simp [eqGuard, binOp, run_eqlNilNil hu]

theorem run_eqlBool {t : TypeId} {b c : Bool} (hu : ∀ w, Sem.run P (underlying t) w = .ok .bool w) (w : World) : (Op.equal t (.bool b) (.bool c)).run P w = .ok (b == c) w := by
  have key : ∀ k, (Op.equalIn (k + 1) t (.bool b) (.bool c)).run P w = .ok (b == c) w := fun k => by
    unfold Op.equalIn
    simp [hu]
  exact key 9999
theorem yld_boolEql {t u : TypeId} {x y : Operand} {b c : Bool} (hx : ev K x = some (.bool b)) (hy : ev K y = some (.bool c)) (hu : ∀ w, Sem.run P (underlying t) w = .ok .bool w) : Yld P g n ⟨d, .binOp .eql t x y u, T, pos, af, gd⟩ K Ps (.bool (b == c)) :=
  yld_bin hx hy fun w => by simp [eqGuard, binOp, run_eqlBool hu]
theorem yld_boolNeq {t u : TypeId} {x y : Operand} {b c : Bool} (hx : ev K x = some (.bool b)) (hy : ev K y = some (.bool c)) (hu : ∀ w, Sem.run P (underlying t) w = .ok .bool w) : Yld P g n ⟨d, .binOp .neq t x y u, T, pos, af, gd⟩ K Ps (.bool (b != c)) :=
  yld_bin hx hy fun w => by simp [eqGuard, binOp, run_eqlBool hu, bne]

/-- make([]T, n), of a known number of elements of one cell. -/
theorem eff_makeSlice1 {t e : TypeId} {x y : Operand} {n' : Nat} {z : Value} {ti : TypeInfo} (hx : ev K x = some (.int .i64 n')) (hy : ev K y = some (.int .i64 n')) (hu : ∀ w, Sem.run P (underlying t) w = .ok (.slice e) w) (hti : ∀ w, Sem.run P (typeInfo e) w = .ok ti w)
    (hk : ti.size = 1) (hz : ti.zero = some z) (hzc : z.cells = #[z]) (hz1 : z.oneCell' = true) (hb : ti.bytes * n' ≤ 281474976710656) (hn : n' ≤ 9223372036854775807) (hn0 : 0 < n') :
    Eff P g n ⟨d, .makeSlice t x y, T, pos, af, gd⟩ K Ps Nat (fun _ => True) (fun b => .slice (some ⟨b, 0, none⟩) n' n') (fun b => sl true e 1 (some ⟨b, 0, none⟩) n' n' (List.replicate n' z) :: Ps) := fun a w ka s next Q h => by
  have hw : IntKind.i64.wrap (n' : Int) = (n' : Int) := w64 (by omega) (by omega)
  have hb' : ¬ ((281474976710656 : Int) < (ti.bytes : Int) * (n' : Int)) := by
    have : ((ti.bytes * n' : Nat) : Int) ≤ 281474976710656 := by omega
    rw [Int.natCast_mul] at this
    omega
  have hneg : ¬ ((n' : Int) < 0) := by omega
  have hcells : (Array.range n').map (fun i => [z][i % 1]?.getD default) = Array.replicate n' z := by
    apply Array.ext'
    simp [Nat.mod_one]
    apply List.ext_getElem?
    intro i
    simp only [List.getElem?_map, List.getElem?_replicate]
    by_cases hi : i < n'
    · simp [hi]
    · simp [hi]
  have hn0' : n' ≠ 0 := by omega
  unfold Oper.wp
  have e' : (execOp a.eval ⟨d, .makeSlice t x y, T, pos, af, gd⟩).run P w = .ok (.value (.slice (some ⟨w.heap.size, 0, none⟩) n' n')) { w with heap := w.heap.push (.cells (List.replicate n' z).toArray e) } := by
    have hsz : ∀ w, (sizeOf e).run P w = .ok 1 w := fun w => by simp [sizeOf, hti, hk]
    have hzv : ∀ w, (zeroValue e).run P w = .ok z w := fun w => by simp [zeroValue, hti, hz]
    have hne : ¬ ((n' : Int) < (n' : Int)) := by omega
    simp [execOp, ka.ev hx, ka.ev hy, Instr.makeSlice, hu, asInt, asIntOf, hti, hw, hb', hneg, hsz, hzv, hzc, newRow, hn0', hcells]
  rw [e']
  refine h w.heap.size _ trivial ?_
  exact (s.alloc (t := e) (l := List.replicate n' z)).rowSl' 1 n' (by simp) (fun v hv => by rw [List.eq_of_mem_replicate hv]; exact hz1)

/-! ### Bytes and strings -/

theorem Sat.freezeEnd {b : Nat} {t : TypeId} {l : List Value} (s : Sat g w (row true b t l :: Ps)) : Sat g (w.freeze ⟨b, l.length, none⟩ 1) (row true b t l :: Ps) := by
  obtain ⟨fz, hf, s'⟩ := s.rowOpen
  have hlt : b < w.heap.size := Sat.lt s'
  have hg := Sat.get s'
  refine Sat.rowShut (fz := if fz.1 == fz.2 then (l.length, l.length + 1) else (min fz.1 l.length, max fz.2 (l.length + 1))) (Sat.put (w' := w.freeze ⟨b, l.length, none⟩ 1) s' rfl rfl rfl ?_ ?_ ?_) ?_
  · simp [World.freeze]
  · simp [World.freeze, Array.getElem?_modify, hg]
  · intro c hc
    simp only [World.freeze]
    rw [if_neg (by omega)]
    simp only [Array.getElem?_modify]
    rw [if_neg (fun e => hc e.symm)]
  · split
    · right; simp
    · rename_i h
      right
      simp at h
      simp only
      omega

/-- []byte(x) of a []byte of one's own. -/
theorem eff_convSame {t e : TypeId} {x : Operand} {b len cap : Nat} {l : List Value} (hx : ev K x = some (.slice (some ⟨b, 0, none⟩) len cap)) (hu : ∀ w, Sem.run P (underlying t) w = .ok (.slice e) w) (he : ∀ w, Sem.run P (underlying e) w = .ok (.int .u8) w) (hs : Sel (sl true e 1 (some ⟨b, 0, none⟩) len cap l) Ps R) :
    Eff P g n ⟨d, .convert t t x, T, pos, af, gd⟩ K Ps Unit (fun _ => True) (fun _ => .slice (some ⟨b, 0, none⟩) len cap) (fun _ => sl true e 1 (some ⟨b, 0, none⟩) len cap l :: R) := fun a w ka s next Q h => by
  rcases (s.sel1 hs).slOpen with ⟨h1, _⟩ | ⟨b', pre, rest, h1, h2, h3, h4, h5, s'⟩
  · cases h1
  · simp only [Option.some.injEq, Addr.mk.injEq, and_true] at h1
    obtain ⟨rfl, h0⟩ := h1
    have hp : pre = [] := List.eq_nil_of_length_eq_zero h0.symm
    subst hp
    simp only [List.nil_append] at s'
    obtain ⟨fz, _, hg⟩ := s'.rowGet
    unfold Oper.wp
    have e' : (execOp a.eval ⟨d, .convert t t x, T, pos, af, gd⟩).run P w = .ok (.value (.slice (some ⟨b, 0, none⟩) len cap)) (w.freeze ⟨b, (l ++ rest).length, none⟩ 1) := by
      have hsh : w.shape? b = some (e, (l ++ rest).length) := by simp [World.shape?, hg]
      simp [execOp, ka.ev hx, convert, hu, he, markStringish, hsh]
    rw [e']
    refine h () _ trivial ?_
    have s3 := s'.freezeEnd
    exact Sat.rowSl s3 1 len cap h2 h3 h4 h5

theorem foldl_push_bytes : ∀ (bs : List UInt8) (acc : ByteArray), ((bs.map fun b => (b.toNat : Int)).foldl (fun r n => r.push (UInt8.ofNat n.toNat)) acc) = ⟨acc.data ++ bs.toArray⟩
  | [], acc => by cases acc; simp
  | b :: bs, acc => by
    simp only [List.map_cons, List.foldl_cons]
    rw [foldl_push_bytes bs]
    cases acc
    simp [ByteArray.push]

theorem yld_bytesToString {t u e : TypeId} {x : Operand} {p : Bool} {ad : Option Addr} {len cap : Nat} {bs : List UInt8} (hx : ev K x = some (.slice ad len cap)) (hu : ∀ w, Sem.run P (underlying t) w = .ok (.slice e) w) (he : ∀ w, Sem.run P (underlying e) w = .ok (.int .u8) w) (hv : ∀ w, Sem.run P (underlying u) w = .ok .string w)
    (hs : Sel (sl p e 1 ad len cap (bs.map bv)) Ps R) : Yld P g n ⟨d, .convert t u x, T, pos, af, gd⟩ K Ps (.string ⟨bs.toArray⟩) := fun a w ka s => by
  have s0 := s.sel1 hs
  have hc := fun k v hk => s0.slCell (k := k) (v := v) hk
  have hkey : (Conv.bytesToString (.slice ad len cap)).run P w = .ok (.string ⟨bs.toArray⟩) w := by
    rcases s0.slOpen with ⟨h1, h2, h3, h4, s'⟩ | ⟨b', pre, rest, h1, h2, h3, h4, h5, s'⟩
    · subst h1
      have : bs = [] := by simpa using h4
      subst this
      simp [Conv.bytesToString]
      rfl
    · subst h1
      have hl : (bs.map bv).length = len := by simpa using h2
      have hl' := run_load_cells (P := P) (w := w) (b := b') (o := pre.length) (vs := bs.map bv) (fun j v hj => by have := hc j v hj; simpa [elemA, Addr.add_lit] using this)
      rw [hl] at hl'
      have e1 : (bs.map fun b => (b.toNat : Int)).map (Value.int .u8) = bs.map bv := by simp [bv]
      rw [run_bytesToString w _ len cap (bs.map fun b => (b.toNat : Int)) (by rw [e1]; exact hl'), foldl_push_bytes, show ByteArray.empty.data ++ bs.toArray = bs.toArray from by show #[] ++ bs.toArray = _; simp]
  simp [execOp, ka.ev hx, convert, hu, he, hv, hkey]


theorem toList_mk (l : List UInt8) : (⟨l.toArray⟩ : ByteArray).toList = l := ByteArray.toList_mk l
theorem yld_strEql {t u : TypeId} {x y : Operand} {bs cs : List UInt8} (hx : ev K x = some (.string ⟨bs.toArray⟩)) (hy : ev K y = some (.string ⟨cs.toArray⟩)) : Yld P g n ⟨d, .binOp .eql t x y u, T, pos, af, gd⟩ K Ps (.bool (decide (bs = cs))) :=
  yld_bin hx hy fun w => by simp [eqGuard, binOp, Op.stringOp, toList_mk]; by_cases h : bs = cs <;> simp [h]
theorem yld_strNeq {t u : TypeId} {x y : Operand} {bs cs : List UInt8} (hx : ev K x = some (.string ⟨bs.toArray⟩)) (hy : ev K y = some (.string ⟨cs.toArray⟩)) : Yld P g n ⟨d, .binOp .neq t x y u, T, pos, af, gd⟩ K Ps (.bool (decide (bs ≠ cs))) :=
  yld_bin hx hy fun w => by simp [eqGuard, binOp, Op.stringOp, toList_mk]; by_cases h : bs = cs <;> simp [h]

/-! ### Literals of several elements -/

/-- The parts of a slice's literal from place i on, each of k cells; all the cells. -/
inductive PrtsN (K : List (Nat × Value)) (k : Nat) : Nat → List (Nat × Operand) → List (Nat × Value) → List Value → Prop
  | nil {i : Nat} : PrtsN K k i [] [] []
  | cons {i : Nat} {x : Operand} {v : Value} {cs cs' : List Value} {xs : List (Nat × Operand)} {vs : List (Nat × Value)} : ev K x = some v → v.cells = cs.toArray → cs.length = k → PrtsN K k (i + 1) xs vs cs' → PrtsN K k i ((i, x) :: xs) ((i, v) :: vs) (cs ++ cs')

theorem PrtsN.prts {k i : Nat} {xs : List (Nat × Operand)} {vs : List (Nat × Value)} {cs : List Value} (h : PrtsN K k i xs vs cs) : Prts K xs vs := by
  induction h with
  | nil => exact .nil
  | cons h1 _ _ _ ih => exact .cons h1 ih

theorem PrtsN.fill {k i : Nat} {xs : List (Nat × Operand)} {vs : List (Nat × Value)} {cs : List Value} (h : PrtsN K k i xs vs cs) : ∀ (pre zs : List Value), pre.length = i * k → zs.length = cs.length → Fill (fun i => some (i * k, k)) (pre ++ zs) vs (pre ++ cs) := by
  induction h with
  | nil =>
    intro pre zs _ hz
    have : zs = [] := by simpa using hz
    subst this
    exact .nil
  | @cons i x v cs cs' xs vs h1 h2 h3 h4 ih =>
    intro pre zs hp hz
    have hset := SetAts.mk (vs := cs) (l := pre ++ zs) (k := i * k) (by simp at hz ⊢; omega)
    have e : (pre ++ zs).take (i * k) ++ (cs ++ (pre ++ zs).drop (i * k + cs.length)) = (pre ++ cs) ++ zs.drop cs.length := by
      rw [List.take_append_of_le_length (by omega), List.take_of_length_le (by omega), List.drop_append, List.drop_eq_nil_of_le (by omega), List.nil_append, List.append_assoc]
      congr 3
      omega
    rw [e] at hset
    have := ih (pre ++ cs) (zs.drop cs.length) (by rw [List.length_append, hp, h3, Nat.add_mul]; omega) (by rw [List.length_drop, hz]; simp)
    rw [List.append_assoc, ← List.append_assoc] at this
    exact .cons rfl h2 h3 (by simpa using hset) (by simpa using this)

theorem eff_mkSliceN {t e : TypeId} {len k : Nat} {xs : List (Nat × Operand)} {vs : List (Nat × Value)} {z : Value} {cs : List Value} (hu : ∀ w, Sem.run P (underlying t) w = .ok (.slice e) w) (hk : ∀ w, Sem.run P (sizeOf e) w = .ok k w) (hz : ∀ w, Sem.run P (zeroValue e) w = .ok z w) (hx : PrtsN K k 0 xs vs cs)
    (hb : decide (len * k ≤ 2 ^ 24) = true) (hk0 : (k != 0) = true) (hl0 : (len != 0) = true) (hl : cs.length = len * k) (h1 : cs.all (·.oneCell') = true) :
    Eff P g n ⟨d, .buildSlice t len xs.toArray, T, pos, af, gd⟩ K Ps Nat (fun _ => True) (fun b => .slice (some ⟨b, 0, none⟩) len len) (fun b => sl true e k (some ⟨b, 0, none⟩) len len cs :: Ps) := by
  have hf := hx.fill [] ((Array.range (len * k)).map (fun i => z.cells[i % z.cells.size]!)).toList (by simp) (by simp [hl])
  exact eff_mkSlice (zs := ((Array.range (len * k)).map (fun i => z.cells[i % z.cells.size]!)).toList) hx.prts hu hk hz Array.toArray_toList.symm hb hk0 hl0 (by simpa using hf) hl h1

/-! ### Slices that came in -/

theorem Sat.slrCell {sz : Nat} {ad : Option Addr} {len : Nat} {xs : List Value} (s : Sat g w (slr sz ad len xs :: Ps)) : xs.length = len * sz ∧ (∀ v ∈ xs, v.oneCell' = true) ∧ (xs ≠ [] → ∃ b o, ad = some ⟨b, o, none⟩) ∧ ∀ k v, xs[k]? = some v → w.cell? (elemA ad k) = some v := by
  obtain ⟨h, ⟨h1, h2, ⟨⟨e1, e2⟩, e3⟩, x, dj, rfl⟩, y, z⟩ := s.mem
  refine ⟨e1, e2, ?_, ?_⟩
  · intro hne
    rcases e3 with ⟨e, _⟩ | ⟨b, o, c, t, fz, ⟨e, _⟩, _⟩
    · exact (hne e).elim
    · exact ⟨b, o, e⟩
  · intro k v hk
    rcases e3 with ⟨e, _⟩ | ⟨b, o, c, t, fz, ⟨e, hc⟩, hh⟩
    · subst e; simp at hk
    · have hb : h1 = Hp.one b (.cells c t fz, false) := hh
      have := y b (.cells c t fz, false) (by simp [Hp.union, hb, Hp.one])
      subst e
      simp [elemA, Addr.add_lit, World.cell?, this, hc k v hk]

theorem yld_indexAddrR {t e : TypeId} {x y : Operand} {ad : Option Addr} {len len' cap' sz : Nat} {xs : List Value} {kd : IntKind} {i : Int} (hx : ev K x = some (.slice ad len' cap')) (hy : ev K y = some (.int kd i)) (hu : ∀ w, Sem.run P (underlying t) w = .ok (.slice e) w)
    (hz : ∀ w, Sem.run P (sizeOf e) w = .ok sz w) (hs : Sel (slr sz ad len xs) Ps R) (hsz : (sz != 0) = true) (j : Nat) (hi : i = (j : Int)) (hj' : j < len') (hj : j < len) {r : Nat} (hr : j * sz = r) : Yld P g n ⟨d, .indexAddr t x y, T, pos, af, gd⟩ K Ps (.pointer (some (elemA ad r))) := fun a w ka s => by
  subst hr hi
  have h2 : ¬ (len' ≤ j) := by omega
  obtain ⟨e1, _, e2, _⟩ := (s.sel1 hs).slrCell
  obtain ⟨b, o, h1⟩ := e2 (by
    rintro rfl
    have hsz' : sz ≠ 0 := by simpa using hsz
    have e1' : len * sz = 0 := by simpa using e1.symm
    rcases Nat.mul_eq_zero.1 e1' with h | h <;> omega)
  subst h1
  simp [execOp, ka.ev hx, ka.ev hy, Instr.indexAt, asIntOf, hu, hz, Addr.add_lit, h2, elemA]

theorem yld_loadR {t : TypeId} {x : Operand} {ad : Option Addr} {len sz k : Nat} {xs : List Value} {v : Value} (hx : ev K x = some (.pointer (some (elemA ad k)))) (ha : ∀ w, Sem.run P (isAgg t) w = .ok false w) (hs : Sel (slr sz ad len xs) Ps R) (hv : xs[k]? = some v) :
    Yld P g n ⟨d, .load t x, T, pos, af, gd⟩ K Ps v := fun a w ka s => by
  simp [execOp, ka.ev hx, Instr.loadAt, Instr.sureAddr, loadVar, ha, (s.sel1 hs).slrCell.2.2.2 k v hv]

theorem Sat.slrSrc {sz : Nat} {ad : Option Addr} {len : Nat} {xs : List Value} {tx e2 : TypeId} (s : Sat g w (slr sz ad len xs :: Ps)) (hk : P.underlying tx = some (.slice e2)) (n2 c2 : Nat) (hn : n2 ≤ len) (hc : ad = none → n2 = 0) : Src P sz tx (.slice ad n2 c2) n2 (xs.take (n2 * sz)) w := by
  obtain ⟨e1, e2, e3, e4⟩ := s.slrCell
  have hl : n2 * sz ≤ len * sz := Nat.mul_le_mul_right _ hn
  cases ad with
  | none =>
    obtain rfl := hc rfl
    simpa using Src.ofNil w hk c2
  | some a =>
    refine Src.ofSlice w hk _ _ _ _ (by rw [List.length_take]; omega) (fun j u hj => ?_) (fun u hu => e2 u (List.mem_of_mem_take hu))
    have : xs[j]? = some u := by
      rw [List.getElem?_take] at hj
      split at hj
      · exact hj
      · cases hj
    simpa [elemA] using e4 j u this

/-- Cells of the memory that stood at the beginning, as a slice that came in. -/
theorem Sat.slrOld {sz : Nat} {a : Addr} {len : Nat} {xs : List Value} (s : Sat g w Ps) (hl : xs.length = len * sz) (h1 : ∀ v ∈ xs, v.oneCell' = true) (hc : ∀ j v, xs[j]? = some v → g.cell? (a.add j) = some v) : Sat g w (slr sz (some a) len xs :: Ps) := by
  by_cases hx : xs = []
  · subst hx
    exact Sat.conseq (l := []) (m := [slr sz (some a) len []]) s fun h e => one_sepL.2 ⟨⟨hl, h1⟩, .inl ⟨rfl, e⟩⟩
  · obtain ⟨v, xs', rfl⟩ := List.exists_cons_of_ne_nil hx
    have h0 := hc 0 v rfl
    obtain ⟨b, o, sp⟩ := a
    have ha0 : (⟨b, o, sp⟩ : Addr).add 0 = ⟨b, o, sp⟩ := Addr.add_zero' _
    rw [ha0] at h0
    simp only [World.cell?] at h0
    split at h0
    · rename_i c t fz hh
      have hsp : sp = none := by
        cases sp with
        | none => rfl
        | some k => simp at h0
      subst hsp
      have s2 := s.base hh
      refine Sat.conseq (l := [held false b (.cells c t fz)]) (m := [slr sz (some ⟨b, o, none⟩) len (v :: xs')]) s2 fun h e => one_sepL.2 ⟨⟨hl, h1⟩, .inr ⟨b, o, c, t, fz, ⟨rfl, fun j u hj => ?_⟩, one_sepL.1 e⟩⟩
      have := hc j u hj
      rw [Addr.add_lit] at this
      simpa [World.cell?, hh] using this
    · cases h0

theorem Sat.slrNil {sz : Nat} (s : Sat g w Ps) (ad : Option Addr) : Sat g w (slr sz ad 0 [] :: Ps) :=
  Sat.conseq (l := []) (m := [slr sz ad 0 []]) s fun h e => one_sepL.2 ⟨⟨by simp, by simp⟩, .inl ⟨rfl, e⟩⟩

theorem Sat.slrInts {k : IntKind} {a : Addr} {len : Nat} {zs : List Int} (s : Sat g w Ps) (hl : len ≤ zs.length) (hc : ∀ i, i < zs.length → g.cell? (a.add i) = some (.int k (zs.getD i 0))) : Sat g w (slr 1 (some a) len ((zs.take len).map (Value.int k)) :: Ps) := by
  refine s.slrOld (by simp; omega) (fun v hv => ?_) (fun j v hj => ?_)
  · obtain ⟨z, -, rfl⟩ := List.mem_map.1 hv
    rfl
  · rw [List.getElem?_map, List.getElem?_take] at hj
    split at hj
    · rename_i hjl
      have hlt : j < zs.length := by omega
      rw [hc j hlt]
      rw [List.getElem?_eq_getElem hlt] at hj
      simp only [Option.map_some, Option.some.injEq] at hj
      rw [← hj, List.getD_eq_getElem?_getD, List.getElem?_eq_getElem hlt]
      rfl
    · cases hj

theorem wf64 {i : Int} (h : (Lit.int .i64 i).wf = true) : -9223372036854775808 ≤ i ∧ i ≤ 9223372036854775807 := by
  simp [Lit.wf, IntKind.min, IntKind.max, IntKind.bits, IntKind.signed] at h
  omega

/-- A law's statement out of its contract. -/
theorem law_of_triple {f : FuncId} {args : Array Value} {Pre : List HProp} {ι : Type} {φ : ι → Prop} {Post : ι → List HProp} (t : Triple P f args Pre ι φ (fun _ => .bool true) Post) (w : World) (hp : Sat w w Pre) :
    Calls P f args w fun e w' => e = .returned (.bool true) ∧ RowKit.Below w.heap.size w w' :=
  (t w w [] (by simpa using hp)).mono fun e w' ⟨x, _, he, s⟩ => ⟨he, s.below⟩

end
end Go.Sep
