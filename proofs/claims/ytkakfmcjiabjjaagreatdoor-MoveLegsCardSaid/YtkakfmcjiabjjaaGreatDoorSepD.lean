/- The operations on memory. -/
import Derived.Test.YtkakfmcjiabjjaaGreatDoorSepC
import Derived.Deep.AppendSrc
namespace Go.Sep
set_option linter.unusedVariables false
set_option linter.unusedSimpArgs false
set_option linter.unusedSectionVars false
set_option linter.unnecessarySimpa false
open Go
variable [Rnd]

/-! ### Cells written -/

/-- l with v at place i is l'. -/
inductive SetAt (v : Value) : List Value → Nat → List Value → Prop
  | here {u : Value} {l : List Value} : SetAt v (u :: l) 0 (v :: l)
  | there {u : Value} {l l' : List Value} {i : Nat} : SetAt v l i l' → SetAt v (u :: l) (i + 1) (u :: l')

theorem SetAt.set {v : Value} {l l' : List Value} {i : Nat} (h : SetAt v l i l') : i < l.length ∧ l' = l.set i v := by
  induction h with
  | here => simp
  | there _ ih => obtain ⟨h1, h2⟩ := ih; simp [h1, h2]

theorem SetAt.mk {v : Value} {l : List Value} {i : Nat} (h : i < l.length) : SetAt v l i (l.set i v) := by
  induction l generalizing i with
  | nil => simp at h
  | cons u l ih =>
    cases i with
    | zero => exact .here
    | succ i => exact .there (ih (by simpa using h))

/-- l with the cells vs from place i on is l'. -/
inductive SetAts : List Value → List Value → Nat → List Value → Prop
  | nil {l : List Value} {i : Nat} : SetAts [] l i l
  | cons {v : Value} {vs l l' l'' : List Value} {i : Nat} : SetAt v l i l' → SetAts vs l' (i + 1) l'' → SetAts (v :: vs) l i l''

/-- The k cells of l from place i on are vs. -/
inductive Cells (l : List Value) : Nat → Nat → List Value → Prop
  | nil {i : Nat} : Cells l i 0 []
  | cons {i k : Nat} {v : Value} {vs : List Value} : l[i]? = some v → Cells l (i + 1) k vs → Cells l i (k + 1) (v :: vs)

theorem Cells.length {l : List Value} {i k : Nat} {vs : List Value} (h : Cells l i k vs) : vs.length = k := by
  induction h with
  | nil => rfl
  | cons _ _ ih => simp [ih]

theorem Cells.at {l : List Value} {i k : Nat} {vs : List Value} (h : Cells l i k vs) : ∀ j v, vs[j]? = some v → l[i + j]? = some v := by
  induction h with
  | nil => intro j v h; simp at h
  | @cons i k v vs h1 _ ih =>
    intro j u hj
    cases j with
    | zero => simp at hj; subst hj; exact h1
    | succ j =>
      have := ih j u (by simpa using hj)
      rw [show i + (j + 1) = i + 1 + j by omega]; exact this

theorem heap_setCell {w : World} {b : Nat} {t : TypeId} {fz : Nat × Nat} {l : List Value} (h : w.heap[b]? = some (.cells l.toArray t fz)) (o : Nat) (v : Value) :
    (w.setCell ⟨b, o, none⟩ v).heap[b]? = some (.cells (l.set o v).toArray t fz) := by
  simp [World.setCell, Array.getElem?_modify, h]

theorem heap_setCell_ne {w : World} {b c : Nat} (o : Nat) (v : Value) (h : c ≠ b) : (w.setCell ⟨b, o, none⟩ v).heap[c]? = w.heap[c]? := by
  simp only [World.setCell, Array.getElem?_modify]
  rw [if_neg (fun e => h e.symm)]

section
variable {P : Program} {g : World} {n : Nat} {K : List (Nat × Value)} {Ps R : List HProp} {d : Option Tmp} {T : TypeId} {pos : String} {af : Array Edge} {gd : Option (Nat × Bool)}

theorem Sat.setCell {w : World} {b : Nat} {t : TypeId} {l : List Value} (s : Sat g w (row true b t l :: R)) (o : Nat) (v : Value) : Sat g (w.setCell ⟨b, o, none⟩ v) (row true b t (l.set o v) :: R) := by
  obtain ⟨fz, hf, s'⟩ := s.rowOpen
  exact (Sat.put (w' := w.setCell ⟨b, o, none⟩ v) (o' := .cells (l.set o v).toArray t fz) s' rfl rfl rfl (by simp [World.setCell]) (heap_setCell (Sat.get s') o v) (fun c hc => heap_setCell_ne o v hc)).rowShut (by simpa using hf)

/-- Cells stored one behind the other into a row of one's own. -/
theorem run_store_row {b : Nat} {t : TypeId} : ∀ (vs l l' : List Value) (o i : Nat) (w : World), Sat g w (row true b t l :: R) → SetAts vs l (o + i) l' → (∀ v ∈ vs, v.oneCell' = true) →
    ∃ w', (storeCells ⟨b, o, none⟩ vs i).run P w = .ok () w' ∧ Sat g w' (row true b t l' :: R)
  | [], l, l', o, i, w, s, h, _ => by
    cases h
    exact ⟨w, by simp [storeCells], s⟩
  | v :: vs, l, l', o, i, w, s, h, h1 => by
    cases h with
    | cons h2 h3 =>
      obtain ⟨hlt, rfl⟩ := h2.set
      have hc : w.cell? ⟨b, o + i, none⟩ = l[o + i]? := s.rowCell? _
      have hf : w.frozen? ⟨b, o + i, none⟩ = false := s.rowFrozen hlt
      have hst : (store ((⟨b, o, none⟩ : Addr).add i) v).run P w = .ok () (w.setCell ⟨b, o + i, none⟩ v) := by
        rw [Addr.add_lit, run_store P w _ _ _ (h1 v (by simp)), hc, List.getElem?_eq_getElem hlt]
        simp [hf]
      obtain ⟨w', hr, s'⟩ := run_store_row vs _ l' o (i + 1) _ (s.setCell (o + i) v) (by rw [← Nat.add_assoc]; exact h3) (fun u hu => h1 u (by simp [hu]))
      exact ⟨w', by simp [storeCells, hst, hr], s'⟩


/-! ### Addresses -/

theorem yld_fieldAddr {t : TypeId} {x : Operand} {f : Nat} {b o : Nat} {fs : Array Field} {fd : Field} {k : Nat} (hx : ev K x = some (.pointer (some ⟨b, o, none⟩))) (hu : ∀ w, Sem.run P (underlying t) w = .ok (.struct fs) w)
    (hf : fs[f]? = some fd) (hs : ∀ w, Sem.run P (sizeOf fd.type) w = .ok k w) (hk : (k == 0) = false) {r : Nat} (hr : o + fd.offset = r) : Yld P g n ⟨d, .fieldAddr t x f, T, pos, af, gd⟩ K Ps (.pointer (some ⟨b, r, none⟩)) := fun a w ka _ => by
  subst hr
  have hk' : k ≠ 0 := by simpa using hk
  simp [execOp, ka.ev hx, Instr.fieldAt, hu, hf, Instr.sureAddr, fieldPlace, hs, hk', Addr.add_lit]

theorem yld_indexAddr {t : TypeId} {x y : Operand} {b o len cap : Nat} {e : TypeId} {k : Nat} {kd : IntKind} {i : Int} (hx : ev K x = some (.slice (some ⟨b, o, none⟩) len cap)) (hy : ev K y = some (.int kd i)) (hu : ∀ w, Sem.run P (underlying t) w = .ok (.slice e) w)
    (hs : ∀ w, Sem.run P (sizeOf e) w = .ok k w) (j : Nat) (hi : i = (j : Int)) (hj : j < len) {r : Nat} (hr : o + j * k = r) : Yld P g n ⟨d, .indexAddr t x y, T, pos, af, gd⟩ K Ps (.pointer (some ⟨b, r, none⟩)) := fun a w ka _ => by
  subst hr hi
  have h1 : (j : Int) < (len : Int) := by omega
  have h2 : ¬ (len ≤ j) := by omega
  simp [execOp, ka.ev hx, ka.ev hy, Instr.indexAt, asIntOf, hu, hs, Addr.add_lit, h2]

/-! ### Loads -/

theorem yld_load {t : TypeId} {x : Operand} {p : Bool} {b o : Nat} {u : TypeId} {l : List Value} {v : Value} (hx : ev K x = some (.pointer (some ⟨b, o, none⟩))) (ha : ∀ w, Sem.run P (isAgg t) w = .ok false w) (hs : Sel (row p b u l) Ps R) (hv : l[o]? = some v) :
    Yld P g n ⟨d, .load t x, T, pos, af, gd⟩ K Ps v := fun a w ka s => by
  simp [execOp, ka.ev hx, Instr.loadAt, Instr.sureAddr, loadVar, ha, s.cell hs hv]

theorem run_load_cells {w : World} {b o : Nat} {vs : List Value} (h : ∀ j v, vs[j]? = some v → w.cell? ⟨b, o + j, none⟩ = some v) : (loadCells ⟨b, o, none⟩ vs.length).run P w = .ok vs.toArray w :=
  run_loadCells_list w ⟨b, o, none⟩ vs (fun j v hj => by rw [Addr.add_lit]; exact h j v hj)

theorem yld_loadA {t : TypeId} {x : Operand} {p : Bool} {b o k : Nat} {u : TypeId} {l vs : List Value} (hx : ev K x = some (.pointer (some ⟨b, o, none⟩))) (ha : ∀ w, Sem.run P (isAgg t) w = .ok true w) (hk : ∀ w, Sem.run P (sizeOf t) w = .ok k w) (hs : Sel (row p b u l) Ps R) (hv : Cells l o k vs) :
    Yld P g n ⟨d, .load t x, T, pos, af, gd⟩ K Ps (.agg vs.toArray) := fun a w ka s => by
  have h := run_load_cells (P := P) (w := w) (b := b) (o := o) (vs := vs) (fun j v hj => s.cell hs (hv.at j v hj))
  rw [hv.length] at h
  simp [execOp, ka.ev hx, Instr.loadAt, Instr.sureAddr, loadVar, ha, hk, h]

/-- A load out of the memory that stood at the beginning. -/
theorem Sat.oldCell {w : World} (s : Sat g w Ps) {a : Addr} {v : Value} (h : g.cell? a = some v) : w.cell? a = some v := by
  have hb : a.block < g.heap.size := World.block_lt_of_cell? g a h
  rw [World.cell?_of_block (w := g) (s.old _ hb)]
  exact h

theorem yld_loadG {t : TypeId} {x : Operand} {b : Addr} {v : Value} (hx : ev K x = some (.pointer (some b))) (ha : ∀ w, Sem.run P (isAgg t) w = .ok false w) (hv : g.cell? b = some v) :
    Yld P g n ⟨d, .load t x, T, pos, af, gd⟩ K Ps v := fun a w ka s => by
  simp [execOp, ka.ev hx, Instr.loadAt, Instr.sureAddr, loadVar, ha, s.oldCell hv]

/-! ### Stores -/

theorem eff_store {t : TypeId} {x y : Operand} {b o k : Nat} {u : TypeId} {l l' vs : List Value} {v : Value} (hx : ev K x = some (.pointer (some ⟨b, o, none⟩))) (hy : ev K y = some v) (hk : ∀ w, Sem.run P (sizeOf t) w = .ok k w) (hv : v.cells = vs.toArray) (hl : vs.length = k)
    (h1 : vs.all (·.oneCell') = true) (hs : Sel (row true b u l) Ps R) (hl' : SetAts vs l o l') :
    Eff P g n ⟨none, .store t x y, T, pos, af, gd⟩ K Ps Unit (fun _ => True) (fun _ => undef) (fun _ => row true b u l' :: R) := fun a w ka s next Q h => by
  obtain ⟨w', hr, s'⟩ := run_store_row (P := P) vs l l' o 0 w (s.sel1 hs) hl' (fun v hv => List.all_eq_true.1 h1 v hv)
  unfold Oper.wp
  have e : (execOp a.eval ⟨none, .store t x y, T, pos, af, gd⟩).run P w = .ok .skip w' := by
    simp [execOp, ka.ev hx, ka.ev hy, Instr.storeAt, Instr.sureAddr, storeVar, hk, hv, hl, hr]
  rw [e]
  exact h () w' trivial s'

/-! ### New blocks -/

theorem Sat.alloc {w : World} {t : TypeId} {l : List Value} (s : Sat g w Ps) : Sat g { w with heap := w.heap.push (.cells l.toArray t) } (row true w.heap.size t l :: Ps) := Sat.rowShut (fz := (0, 0)) (Sat.new s rfl rfl rfl rfl) (.inl rfl)

theorem eff_box {t : TypeId} {x : Operand} {v : Value} {vs : List Value} (hx : ev K x = some v) (hv : v.cells = vs.toArray) :
    Eff P g n ⟨d, .box t x, T, pos, af, gd⟩ K Ps Nat (fun _ => True) (fun b => .pointer (some ⟨b, 0, none⟩)) (fun b => row true b t vs :: Ps) := fun a w ka s next Q h => by
  unfold Oper.wp
  have e : (execOp a.eval ⟨d, .box t x, T, pos, af, gd⟩).run P w = .ok (.value (.pointer (some ⟨w.heap.size, 0, none⟩))) { w with heap := w.heap.push (.cells vs.toArray t) } := by
    simp [execOp, ka.ev hx, Instr.box, newVar, newRow, hv]
  rw [e]
  exact h w.heap.size _ trivial s.alloc

theorem eff_alloc {t : TypeId} {z : Value} {vs : List Value} (hz : ∀ w, Sem.run P (zeroValue t) w = .ok z w) (hv : z.cells = vs.toArray) :
    Eff P g n ⟨d, .alloc t, T, pos, af, gd⟩ K Ps Nat (fun _ => True) (fun b => .pointer (some ⟨b, 0, none⟩)) (fun b => row true b t vs :: Ps) := fun a w ka s next Q h => by
  unfold Oper.wp
  have e : (execOp a.eval ⟨d, .alloc t, T, pos, af, gd⟩).run P w = .ok (.value (.pointer (some ⟨w.heap.size, 0, none⟩))) { w with heap := w.heap.push (.cells vs.toArray t) } := by
    simp [execOp, Instr.alloc, hz, newVar, newRow, hv]
  rw [e]
  exact h w.heap.size _ trivial s.alloc

theorem eff_makeMap {t : TypeId} : Eff P g n ⟨d, .makeMap t none, T, pos, af, gd⟩ K Ps Nat (fun _ => True) (fun b => .map (some b)) (fun b => mapO true b [] 0 :: Ps) := fun a w ka s next Q h => by
  unfold Oper.wp
  have e : (execOp a.eval ⟨d, .makeMap t none, T, pos, af, gd⟩).run P w = .ok (.value (.map (some w.heap.size))) { w with heap := w.heap.push (.map #[] 0) } := by
    simp [execOp, Instr.makeMap]
  rw [e]
  exact h w.heap.size _ trivial (Sat.new s rfl rfl rfl rfl)

/-! ### Structs and slices built -/

/-- The cells cs with the parts laid in, is cs'. -/
inductive Fill (pl : Nat → Option (Nat × Nat)) : List Value → List (Nat × Value) → List Value → Prop
  | nil {cs : List Value} : Fill pl cs [] cs
  | cons {cs cs' cs'' vs : List Value} {i off size : Nat} {v : Value} {rest : List (Nat × Value)} : pl i = some (off, size) → v.cells = vs.toArray → vs.length = size → SetAts vs cs off cs' → Fill pl cs' rest cs'' → Fill pl cs ((i, v) :: rest) cs''

theorem SetAts.length {vs l l' : List Value} {i : Nat} (h : SetAts vs l i l') : l'.length = l.length ∧ (vs ≠ [] → i + vs.length ≤ l.length) := by
  induction h with
  | nil => simp
  | @cons v vs l l' l'' i h1 _ ih =>
    obtain ⟨h2, rfl⟩ := h1.set
    refine ⟨by simpa using ih.1, fun _ => ?_⟩
    cases vs with
    | nil => simp; omega
    | cons u vs => have := ih.2 (by simp); simp at this ⊢; omega

theorem SetAts.mk : ∀ {vs l : List Value} {k : Nat}, k + vs.length ≤ l.length → SetAts vs l k (l.take k ++ (vs ++ l.drop (k + vs.length)))
  | [], l, k, _ => by simpa using SetAts.nil (l := l) (i := k)
  | v :: vs, l, k, h => by
    simp at h
    have h1 := SetAt.mk (v := v) (l := l) (i := k) (by omega)
    have h2 := SetAts.mk (vs := vs) (l := l.set k v) (k := k + 1) (by simp; omega)
    have e : (l.set k v).take (k + 1) ++ (vs ++ (l.set k v).drop (k + 1 + vs.length)) = l.take k ++ (v :: vs ++ l.drop (k + (v :: vs).length)) := by
      have e1 : (l.set k v).take (k + 1) = l.take k ++ [v] := by
        rw [List.take_succ_eq_append_getElem (by simp; omega)]
        have : (l.set k v).take k = l.take k := by
          apply List.ext_getElem?
          intro m
          simp only [List.getElem?_take, List.getElem?_set]
          split
          · rw [if_neg (by omega)]
          · rfl
        simp [this]
      have e2 : (l.set k v).drop (k + 1 + vs.length) = l.drop (k + (v :: vs).length) := by
        rw [List.drop_set_of_lt (by omega)]
        congr 1
        simp; omega
      rw [e1, e2]; simp
    rw [e] at h2
    exact .cons h1 h2

theorem SetAts.foldl {vs : List Value} : ∀ {l l' : List Value} {i j : Nat}, SetAts vs l (i + j) l' → ((vs.zipIdx j).foldl (fun (cs : Array Value) (x : Value × Nat) => cs.setIfInBounds (i + x.2) x.1) l.toArray) = l'.toArray := by
  induction vs with
  | nil => intro l l' i j h; cases h; rfl
  | cons v vs ih =>
    intro l l' i j h
    cases h with
    | cons h1 h2 =>
      obtain ⟨_, rfl⟩ := h1.set
      simp only [List.zipIdx_cons, List.foldl_cons]
      have := ih (l := l.set (i + j) v) (i := i) (j := j + 1) (by rw [← Nat.add_assoc]; exact h2)
      rw [← this]
      simp

theorem Fill.run {pl : Nat → Option (Nat × Nat)} {cs cs' : List Value} {parts : List (Nat × Value)} (h : Fill pl cs parts cs') (hne : ∀ i off, pl i ≠ some (off, 0)) : Instr.fill pl cs.toArray parts = some cs'.toArray := by
  induction h with
  | nil => rfl
  | @cons cs cs' cs'' vs i off size v rest h1 h2 h3 h4 h5 ih =>
    have hl := h4.length
    have hf := SetAts.foldl (i := off) (j := 0) h4
    have hvs : vs ≠ [] := by rintro rfl; simp at h3; subst h3; exact hne i off h1
    have hle := hl.2 hvs
    unfold Instr.fill
    simp only [h1, h2, List.size_toArray, h3]
    rw [if_neg (by simp; omega)]
    rw [← ih]
    congr 1
    rw [← hf]
    simp

/-- The parts of a composite, their operands read. -/
inductive Prts (K : List (Nat × Value)) : List (Nat × Operand) → List (Nat × Value) → Prop
  | nil : Prts K [] []
  | cons {i : Nat} {x : Operand} {v : Value} {xs : List (Nat × Operand)} {vs : List (Nat × Value)} : ev K x = some v → Prts K xs vs → Prts K ((i, x) :: xs) ((i, v) :: vs)

theorem Prts.map {xs : List (Nat × Operand)} {vs : List (Nat × Value)} (h : Prts K xs vs) {a : Act} (ka : Kn n K a) : xs.map (fun (x : Nat × Operand) => (x.1, a.eval x.2)) = vs := by
  induction h with
  | nil => rfl
  | cons h1 _ ih => simp [ka.ev h1, ih]

theorem yld_build {t : TypeId} {xs : List (Nat × Operand)} {vs : List (Nat × Value)} {zs cs : List Value} {fs : Array Field} {places : Array (Nat × Nat)} (hx : Prts K xs vs) (hz : ∀ w, Sem.run P (zeroValue t) w = .ok (.agg zs.toArray) w) (hu : ∀ w, Sem.run P (underlying t) w = .ok (.struct fs) w)
    (hp : ∀ w, Sem.run P (fs.mapM fun f => Prod.mk f.offset <$> sizeOf f.type) w = .ok places w) (hne : (places.all fun x => x.2 != 0) = true) (hf : Fill (places[·]?) zs vs cs) :
    Yld P g n ⟨d, .build t xs.toArray, T, pos, af, gd⟩ K Ps (.agg cs.toArray) := fun a w ka _ => by
  have h := hf.run (fun i off he => by
    have := Array.all_eq_true_iff_forall_mem.1 hne _ (Array.mem_of_getElem? he)
    simp at this)
  have e : (Array.map (fun (x : Nat × Operand) => (x.1, a.eval x.2)) xs.toArray).toList = vs := by simpa using hx.map ka
  simp [execOp, Instr.build, hz, hu, hp, Value.cells, hx.map ka, h]

theorem eff_buildSlice {t e : TypeId} {len k : Nat} {xs : List (Nat × Operand)} {vs : List (Nat × Value)} {z : Value} {zs cs : List Value} (hx : Prts K xs vs) (hu : ∀ w, Sem.run P (underlying t) w = .ok (.slice e) w) (hk : ∀ w, Sem.run P (sizeOf e) w = .ok k w) (hz : ∀ w, Sem.run P (zeroValue e) w = .ok z w)
    (hzs : (Array.range (len * k)).map (fun i => z.cells[i % z.cells.size]!) = zs.toArray) (hb : decide (len * k ≤ 2 ^ 24) = true) (hk0 : (k != 0) = true) (hl0 : (len != 0) = true) (hf : Fill (fun i => some (i * k, k)) zs vs cs) :
    Eff P g n ⟨d, .buildSlice t len xs.toArray, T, pos, af, gd⟩ K Ps Nat (fun _ => True) (fun b => .slice (some ⟨b, 0, none⟩) len len) (fun b => row true b e cs :: Ps) := fun a w ka s next Q h => by
  have hk0' : k ≠ 0 := by simpa using hk0
  have hl0' : len ≠ 0 := by simpa using hl0
  have hr := hf.run (fun i off he => by have he' : some (i * k, k) = some (off, 0) := he; injection he' with h; injection h with h1 h2; exact hk0' h2)
  have hb' : ¬ (2 ^ 24 < len * k) := by simpa using hb
  have hlk : ¬ (len * k = 0) := fun h => by rcases Nat.mul_eq_zero.1 h with h | h <;> contradiction
  unfold Oper.wp
  have e : (execOp a.eval ⟨d, .buildSlice t len xs.toArray, T, pos, af, gd⟩).run P w = .ok (.value (.slice (some ⟨w.heap.size, 0, none⟩) len len)) { w with heap := w.heap.push (.cells cs.toArray e) } := by
    simp [execOp, Instr.buildSlice, hu, hk, hz, hb', hk0', hl0', hzs, hx.map ka, hr, newRow]
    exact fun h => absurd h hlk
  rw [e]
  exact h w.heap.size _ trivial s.alloc

/-- []T{v} -/
theorem eff_buildSlice1 {t e : TypeId} {k : Nat} {x : Operand} {v z : Value} {cs : List Value} (hx : ev K x = some v) (hv : v.cells = cs.toArray) (hu : ∀ w, Sem.run P (underlying t) w = .ok (.slice e) w) (hk : ∀ w, Sem.run P (sizeOf e) w = .ok k w) (hz : ∀ w, Sem.run P (zeroValue e) w = .ok z w)
    (hl : cs.length = k) (hk0 : (k != 0) = true) (hb : decide (k ≤ 2 ^ 24) = true) :
    Eff P g n ⟨d, .buildSlice t 1 #[(0, x)], T, pos, af, gd⟩ K Ps Nat (fun _ => True) (fun b => .slice (some ⟨b, 0, none⟩) 1 1) (fun b => row true b e cs :: Ps) := by
  have hk0' : k ≠ 0 := by simpa using hk0
  have hb' : ¬ (2 ^ 24 < k) := by simpa using hb
  intro a w ka s next Q h
  unfold Oper.wp
  have hlen : ((Array.range (1 * k)).map (fun i => z.cells[i % z.cells.size]!)).toList.length = k := by simp
  have hset := SetAts.mk (vs := cs) (l := ((Array.range (1 * k)).map (fun i => z.cells[i % z.cells.size]!)).toList) (k := 0) (by rw [hlen]; omega)
  have hcs : (List.take 0 ((Array.range (1 * k)).map (fun i => z.cells[i % z.cells.size]!)).toList ++ (cs ++ List.drop (0 + cs.length) ((Array.range (1 * k)).map (fun i => z.cells[i % z.cells.size]!)).toList)) = cs := by
    rw [List.take_zero, List.nil_append, List.drop_eq_nil_of_le (by rw [hlen]; omega), List.append_nil]
  rw [hcs] at hset
  have hf : Instr.fill (fun i => some (i * k, k)) ((Array.range (1 * k)).map (fun i => z.cells[i % z.cells.size]!)) [(0, v)] = some cs.toArray := by
    have := (Fill.cons (pl := fun i => some (i * k, k)) (i := 0) (off := 0 * k) (size := k) (v := v) rfl hv hl (by rw [Nat.zero_mul]; exact hset) .nil).run (fun i off he => by have he' : some (i * k, k) = some (off, 0) := he; injection he' with h; injection h with h1 h2; exact hk0' h2)
    rw [Array.toArray_toList] at this
    exact this
  have e : (execOp a.eval ⟨d, .buildSlice t 1 #[(0, x)], T, pos, af, gd⟩).run P w = .ok (.value (.slice (some ⟨w.heap.size, 0, none⟩) 1 1)) { w with heap := w.heap.push (.cells cs.toArray e) } := by
    simp only [Nat.one_mul] at hf
    simp [execOp, Instr.buildSlice, hu, hk, hz, hb', hk0', ka.ev hx, hf, newRow]
  rw [e]
  exact h w.heap.size _ trivial s.alloc

/-- []T{} -/
theorem eff_buildSlice0 {t e : TypeId} {k : Nat} (hu : ∀ w, Sem.run P (underlying t) w = .ok (.slice e) w) (hk : ∀ w, Sem.run P (sizeOf e) w = .ok k w) :
    Eff P g n ⟨d, .buildSlice t 0 #[], T, pos, af, gd⟩ K Ps Nat (fun _ => True) (fun b => .slice (some ⟨b, 0, none⟩) 0 0) (fun b => row true b e [] :: Ps) := fun a w ka s next Q h => by
  unfold Oper.wp
  have e : (execOp a.eval ⟨d, .buildSlice t 0 #[], T, pos, af, gd⟩).run P w = .ok (.value (.slice (some ⟨w.heap.size, 0, none⟩) 0 0)) { w with heap := w.heap.push (.cells (#[] : Array Value) e) } := by
    have h0 : Array.range 0 = #[] := by decide
    simp [execOp, Instr.buildSlice, hu, hk, Instr.fill, newRow, h0]
  rw [e]
  exact h w.heap.size _ trivial (s.alloc (l := []))

/-! ### Lengths, least and greatest -/

theorem yld_len {x : Operand} {t e : TypeId} {ad : Option Addr} {len cap : Nat} (hx : ev K x = some (.slice ad len cap)) (hu : ∀ w, Sem.run P (underlying t) w = .ok (.slice e) w) : Yld P g n ⟨d, .call ⟨.builtin .len, #[x], #[t]⟩, T, pos, af, gd⟩ K Ps (.int .i64 len) := fun a w ka _ => by
  simp [execOp, resolve, invoke, builtin, Builtin.len_, ka.ev hx, hu, goInt]
theorem yld_lenS {x : Operand} {t : TypeId} {s : ByteArray} (hx : ev K x = some (.string s)) (hu : ∀ w, Sem.run P (underlying t) w = .ok .string w) : Yld P g n ⟨d, .call ⟨.builtin .len, #[x], #[t]⟩, T, pos, af, gd⟩ K Ps (.int .i64 s.size) := fun a w ka _ => by
  simp [execOp, resolve, invoke, builtin, Builtin.len_, ka.ev hx, hu, goInt]
theorem yld_min {x y : Operand} {ts : Array TypeId} {kd k2 : IntKind} {i j : Int} (hx : ev K x = some (.int kd i)) (hy : ev K y = some (.int k2 j)) : Yld P g n ⟨d, .call ⟨.builtin .min, #[x, y], ts⟩, T, pos, af, gd⟩ K Ps (.int kd (min i j)) := fun a w ka _ => by
  have : (if j < i then j else i) = min i j := by omega
  simp [execOp, resolve, invoke, builtin, Builtin.min_, Builtin.min2, ka.ev hx, ka.ev hy, this]
theorem yld_max {x y : Operand} {ts : Array TypeId} {kd k2 : IntKind} {i j : Int} (hx : ev K x = some (.int kd i)) (hy : ev K y = some (.int k2 j)) : Yld P g n ⟨d, .call ⟨.builtin .max, #[x, y], ts⟩, T, pos, af, gd⟩ K Ps (.int kd (max i j)) := fun a w ka _ => by
  have : (if i < j then j else i) = max i j := by omega
  simp [execOp, resolve, invoke, builtin, Builtin.max_, Builtin.max2, ka.ev hx, ka.ev hy, this]

/-! ### Calls -/

inductive Evs (K : List (Nat × Value)) : List Operand → List Value → Prop
  | nil : Evs K [] []
  | cons {x : Operand} {v : Value} {xs : List Operand} {vs : List Value} : ev K x = some v → Evs K xs vs → Evs K (x :: xs) (v :: vs)

theorem Evs.map {xs : List Operand} {vs : List Value} (h : Evs K xs vs) {a : Act} (ka : Kn n K a) : xs.map a.eval = vs := by
  induction h with
  | nil => rfl
  | cons h1 _ ih => simp [ka.ev h1, ih]

theorem eff_call {f : FuncId} {xs : List Operand} {ts : Array TypeId} {vs : List Value} {Pre : List HProp} {ι : Type} {φ : ι → Prop} {val : ι → Value} {Post : ι → List HProp} (hc : ∀ args w, Sem.run P (callFunc f args) w = .ok (.enter f args) w) (hx : Evs K xs vs) (hs : SelL Pre Ps R)
    (t : Triple P f vs.toArray Pre ι φ val Post) : Eff P g n ⟨d, .call ⟨.value (.func f), xs.toArray, ts⟩, T, pos, af, gd⟩ K Ps ι φ val (fun x => Post x ++ R) := fun a w ka s next Q h => by
  unfold Oper.wp
  have e : (execOp a.eval ⟨d, .call ⟨.value (.func f), xs.toArray, ts⟩, T, pos, af, gd⟩).run P w = .ok (.enter f vs.toArray) w := by
    simp [execOp, resolve, Deferred.ofValue, Act.eval, invoke, hx.map ka, hc]
  rw [e]
  refine (t g w R (s.sel hs)).mono ?_
  rintro e w' ⟨x, hx, rfl, s'⟩
  exact h x w' hx s'

end
end Go.Sep
