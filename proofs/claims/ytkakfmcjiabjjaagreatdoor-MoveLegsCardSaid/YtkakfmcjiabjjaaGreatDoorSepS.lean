/- Strings: a byte of one; the marks' first piece. -/
import Derived.Test.YtkakfmcjiabjjaaGreatDoorSepR
import Derived.Lib.ConvBytes
namespace Go.Sep
set_option linter.unusedVariables false
set_option linter.unusedSimpArgs false
set_option linter.unusedSectionVars false
set_option linter.unnecessarySimpa false
open Go
variable [rn : Rnd]

section
variable {P : Program} {g : World} {n : Nat} {K : List (Nat × Value)} {Ps R : List HProp} {d : Option Tmp} {T : TypeId} {pos : String} {af : Array Edge} {gd : Option (Nat × Bool)} {w : World}

theorem yld_indexStr {t : TypeId} {x y : Operand} {cs : List UInt8} {kd : IntKind} {i : Int} {c : UInt8} (hx : ev K x = some (.string ⟨cs.toArray⟩)) (hy : ev K y = some (.int kd i)) (hu : ∀ w, Sem.run P (underlying t) w = .ok .string w)
    (k : Nat) (hi : i = k) (hc : cs[k]? = some c) : Yld P g n ⟨d, .index t x y, T, pos, af, gd⟩ K Ps (.int .u8 (c.toNat : Int)) := fun a w ka _ => by
  subst hi
  have h1 : (⟨cs.toArray⟩ : ByteArray)[k]? = some c := by
    obtain ⟨hk, he⟩ := List.getElem?_eq_some_iff.1 hc
    rw [getElem?_pos _ _ (by simpa [ByteArray.size] using hk)]
    simpa [ByteArray.getElem_eq_getElem_data] using he
  simp [execOp, Instr.index, ka.ev hx, ka.ev hy, asIntOf, Sem.run_bind, hu, Result.andThen, h1]

theorem yld_mkFunc {fn : Fn} {xs ys : List Operand} {us vs : List Value} (hx : Evs K xs us) (hy : Evs K ys vs) : Yld P g n ⟨d, .makeFunc fn xs.toArray ys.toArray, T, pos, af, gd⟩ K Ps (.func fn us.toArray vs.toArray) := fun a w k _ => by
  simp [execOp, Instr.makeFunc, hx.map k, hy.map k, Sem.run, pure]

omit rn in
theorem wU64 {e : Int} (h1 : 0 ≤ e) (h2 : e ≤ 18446744073709551615) : IntKind.u64.wrap e = e := by
  simp [IntKind.wrap, IntKind.signed, IntKind.bits]
  omega
omit rn in
theorem wU8 {e : Int} (h1 : 0 ≤ e) (h2 : e ≤ 255) : IntKind.u8.wrap e = e := by
  simp [IntKind.wrap, IntKind.signed, IntKind.bits]
  omega

/-- []byte of a string. -/
theorem eff_strBytes {src dst e : TypeId} {x : Operand} {cs : List UInt8} (hx : ev K x = some (.string ⟨cs.toArray⟩)) (hs : P.underlying src = some .string) (hd : P.underlying dst = some (.slice e)) (he : P.underlying e = some (.int .u8)) :
    Eff P g n ⟨d, .convert src dst x, T, pos, af, gd⟩ K Ps (Nat × Nat) (fun y => cs.length ≤ y.2) (fun y => .slice (some ⟨y.1, 0, none⟩) cs.length y.2) (fun y => sl true e 1 (some ⟨y.1, 0, none⟩) cs.length y.2 (cs.map bv) :: Ps) := fun a w ka s next Q h => by
  unfold Oper.wp
  have hsz : (⟨cs.toArray⟩ : ByteArray).size = cs.length := by simp [ByteArray.size]
  have hge := grownCap_ge w cs.length 0 e
  have e' : (execOp a.eval ⟨d, .convert src dst x, T, pos, af, gd⟩).run P w = .ok (.value (.slice (some ⟨w.heap.size, 0, none⟩) cs.length (grownCap w cs.length 0 e))) (Lib.bytesWorld w e ⟨cs.toArray⟩) := by
    have := Lib.run_convert_string_bytes w src dst e ⟨cs.toArray⟩ hs hd he
    rw [hsz] at this
    simp [execOp, ka.ev hx, this]
  rw [e']
  have hc : Lib.bytesCells w e ⟨cs.toArray⟩ = (cs.map bv ++ List.replicate (grownCap w cs.length 0 e - cs.length) (Value.int .u8 0)).toArray := by
    unfold Lib.bytesCells
    rw [hsz]
    apply Array.toList_inj.1
    simp [bv, Function.comp_def]
  have hh : (Lib.bytesWorld w e ⟨cs.toArray⟩).heap = w.heap.push (.cells (Lib.bytesCells w e ⟨cs.toArray⟩) e ((Lib.bytesCells w e ⟨cs.toArray⟩).size, (Lib.bytesCells w e ⟨cs.toArray⟩).size + 1)) := by
    apply Array.ext_getElem?
    intro j
    rw [Array.getElem?_push]
    split
    · rename_i hj; subst hj; exact Lib.bytesWorld_at_new w e ⟨cs.toArray⟩
    · rename_i hj
      rcases Nat.lt_or_ge j w.heap.size with h' | h'
      · exact Lib.bytesWorld_at_old w e ⟨cs.toArray⟩ j h'
      · rw [Array.getElem?_eq_none h', Array.getElem?_eq_none (by rw [Lib.bytesWorld_size]; omega)]
  have s1 := Sat.new (w' := Lib.bytesWorld w e ⟨cs.toArray⟩) s rfl rfl rfl hh
  rw [hc] at s1
  have s2 := Sat.rowShut s1 (.inr (by simp))
  refine h (w.heap.size, grownCap w cs.length 0 e) _ hge (Sat.rowSl s2 1 cs.length _ (by simp) (by simp; omega) hge ?_)
  intro v hv
  obtain ⟨c, _, rfl⟩ := List.mem_map.1 hv
  rfl

/-- Results: a cell's cells and a slot. -/
theorem resultsCT {fn : Func} {ty : TypeId} {t u k b o : Nat} {ut : TypeId} {p : Bool} {l vs : List Value} {v : Value} (hr : fn.results = #[.cell t ty, .tmp u]) (h : look K t = some (.pointer (some ⟨b, o, none⟩))) (ha : ∀ w, Sem.run P (isAgg ty) w = .ok true w) (hk : ∀ w, Sem.run P (sizeOf ty) w = .ok k w) (hs : Sel (row p b ut l) Ps R) (hv : Cells l o k vs) (hu : look K u = some v) :
    ∀ a, Kn n K a → ∀ w, Sat g w Ps → (results fn a.tmps).run P w = .ok (.tuple #[.agg vs.toArray, v]) w := fun a ka w s => by
  have h' := run_load_cells (P := P) (w := w) (b := b) (o := o) (vs := vs) (fun j v hj => s.cell hs (hv.at j v hj))
  rw [hv.length] at h'
  have h1 := ka.getD h
  have h2 := ka.getD hu
  rw [Array.getD_eq_getD_getElem?] at h1 h2
  simp [results, hr, h1, h2, asAddr, loadVar, ha, hk, h', Sem.run_bind, Result.andThen]

omit rn in
/-- The head of a slice. -/
theorem Sat.slHead {p : Bool} {t : TypeId} {sz : Nat} {ad : Option Addr} {len cap : Nat} {xs : List Value} (s : Sat g w (sl p t sz ad len cap xs :: Ps)) (l : Nat) (hl : l ≤ len) : Sat g w (sl p t sz ad l cap (xs.take (l * sz)) :: Ps) := by
  have h := (s.slLen).1
  have h2 : l * sz ≤ len * sz := Nat.mul_le_mul_right _ hl
  exact Sat.slShrink l (xs := xs.take (l * sz)) (ys := xs.drop (l * sz)) (by rw [List.take_append_drop]; exact s) (by rw [List.length_take, h]; omega) hl

/-- The end of a block that was entered before marks were laid. -/
theorem WK.endBlockM {r : Rnd} {Q : Exit → Act → World → Prop} {k : List Code} {id : Nat} (hr : r.ro = rn.ro) (h : @WK rn P Q g n k K Ps) : @WK rn P (Exit.inBlock id (Exit.then (@wpK r P Q k) Q)) g n [] K Ps := by
  have e : @wpK r P Q k = @wpK rn P Q k := wpK_ro hr
  rw [e]
  exact WK.endBlock (rn := rn) h
theorem XQ.hereM {r : Rnd} {Q : Exit → Act → World → Prop} {k : List Code} {id : Nat} (hr : r.ro = rn.ro) (h : @WK rn P Q g n k K Ps) : @XQ rn (Exit.inBlock id (Exit.then (@wpK r P Q k) Q)) g n id K Ps := by
  have e : @wpK r P Q k = @wpK rn P Q k := wpK_ro hr
  rw [e]
  exact XQ.here (rn := rn) h
omit rn in
theorem rnd0_ro : (rnd0).ro = none := rfl

/-- No mark has been laid yet. -/
theorem WK.marks0 {Q : Exit → Act → World → Prop} {k : List Code} (h : WK P Q g n k K (marksP rn.ds :: Ps)) (h0 : rn.ds = [] := by rfl) : WK P Q g n k K Ps := fun a w ka s =>
  h a w ka (Sat.pack (by rw [h0]; exact s))
end
end Go.Sep
