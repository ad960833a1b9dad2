import Derived.Shelf.Sort.Plain
import Derived.Test.YtkakfmcjiabjjaaGreatDoorMovG
namespace Go.Sep
set_option linter.unusedVariables false
set_option linter.unusedSimpArgs false
set_option linter.unusedSectionVars false
set_option linter.unnecessarySimpa false
open Go
variable [rn : Rnd]
/-- Blocks laid behind the others. -/
theorem Sat.grow {g w : World} {l : List HProp} (s : Sat g w l) (os : Array Obj) : Sat g (Go.Sort.grow w os) l := by
  have hg := s.size
  refine ⟨s.os, s.tape, s.output, by simp [Go.Sort.grow]; omega, fun k hk => ?_, ?_⟩
  · simp only [Go.Sort.grow]
    rw [Array.getElem?_append_left (by omega)]
    exact s.old k hk
  · obtain ⟨h, x, y, z⟩ := s.mem
    refine ⟨h, x, fun b u hu => ?_, z⟩
    have hb := y b u hu
    simp only [Go.Sort.grow]
    rw [Array.getElem?_append_left]
    · exact hb
    · rcases Nat.lt_or_ge b w.heap.size with k | k
      · exact k
      · rw [Array.getElem?_eq_none k] at hb; cases hb
omit rn in
theorem sort_putCells (pre rest : List Value) (l l' : List Int) (hl : l'.length = l.length) : Go.Sort.putCells (Value.int .i64) pre.length l'.toArray (pre ++ (l.map (Value.int .i64) ++ rest)).toArray = (pre ++ (l'.map (Value.int .i64) ++ rest)).toArray := by
  apply Array.ext_getElem?
  intro k
  simp only [Go.Sort.putCells, Array.getElem?_mapIdx, List.getElem?_toArray, List.size_toArray]
  rcases Nat.lt_or_ge k pre.length with h1 | h1
  · rw [List.getElem?_append_left h1, List.getElem?_append_left h1, List.getElem?_eq_getElem h1]
    simp only [Option.map_some]
    rw [if_neg (by omega)]
  · rw [List.getElem?_append_right h1, List.getElem?_append_right h1]
    rcases Nat.lt_or_ge (k - pre.length) l.length with h2 | h2
    · have h3 : k - pre.length < l'.length := by omega
      rw [List.getElem?_append_left (by simpa using h2), List.getElem?_append_left (by simpa using h3), List.getElem?_map, List.getElem?_map, List.getElem?_eq_getElem h2, List.getElem?_eq_getElem h3]
      simp only [Option.map_some]
      rw [if_pos ⟨h1, by omega⟩]
      rw [getElem!_pos l'.toArray (k - pre.length) (by simpa using h3)]
      simp
    · rw [List.getElem?_append_right (by simpa using h2), List.getElem?_append_right (by simp; omega)]
      simp only [List.length_map, hl]
      cases rest[k - pre.length - l.length]? with
      | none => rfl
      | some y => simp only [Option.map_some]; rw [if_neg (by omega)]
/-- A row of ints of one's own, told as the sort tells it: what it finds, and what it leaves. -/
theorem Sat.sortRow {g w : World} {b : Nat} {t : TypeId} {pre rest : List Value} {l : List Int} {R : List HProp} (s : Sat g w (row true b t (pre ++ (l.map (Value.int .i64) ++ rest)) :: R)) :
    Go.Sort.Holds (Value.int .i64) w b pre.length l.toArray ∧ b < w.heap.size ∧
    ∀ (l' : List Int) (n : Nat) (os : Array Obj), l'.length = l.length → Sat g (Go.Sort.grow (Go.Sort.putRow (Value.int .i64) (Go.Sort.ahead w n) b pre.length l'.toArray) os) (row true b t (pre ++ (l'.map (Value.int .i64) ++ rest)) :: R) := by
  refine ⟨fun j hj => ?_, ?_, fun l' n os hl => ?_⟩
  · have hj : j < l.length := by simpa using hj
    constructor
    · rw [s.rowCell?, List.getElem?_append_right (by omega), Nat.add_sub_cancel_left, List.getElem?_append_left (by simpa using hj), List.getElem?_map, List.getElem?_eq_getElem hj, getElem!_pos l.toArray j (by simpa using hj)]
      simp
    · exact s.rowFrozen (by simp; omega)
  · obtain ⟨fz, hf, h⟩ := s.rowGet
    rcases Nat.lt_or_ge b w.heap.size with k | k
    · exact k
    · rw [Array.getElem?_eq_none k] at h; cases h
  · obtain ⟨fz, hf, s'⟩ := s.rowOpen
    have hget : w.heap[b]? = some (.cells (pre ++ (l.map (Value.int .i64) ++ rest)).toArray t fz) := Sat.get s'
    refine Sat.grow (w := Go.Sort.putRow (Value.int .i64) (Go.Sort.ahead w n) b pre.length l'.toArray) (Sat.rowShut (fz := fz) (Sat.put (w' := Go.Sort.putRow (Value.int .i64) (Go.Sort.ahead w n) b pre.length l'.toArray) (o' := .cells (pre ++ (l'.map (Value.int .i64) ++ rest)).toArray t fz) s' rfl rfl rfl (by simp [Go.Sort.putRow, Go.Sort.mapBlock, Go.Sort.ahead]) ?_ (fun c hc => ?_)) ?_) os
    · simp only [Go.Sort.putRow, Go.Sort.mapBlock, Go.Sort.ahead, Array.getElem?_modify, if_true, hget, Option.map_some, Go.Sort.onCells]
      rw [sort_putCells pre rest l l' hl]
    · simp only [Go.Sort.putRow, Go.Sort.mapBlock, Go.Sort.ahead, Array.getElem?_modify]
      rw [if_neg (fun e => hc e.symm)]
    · simp only [List.length_append, List.length_map] at hf ⊢
      omega
end Go.Sep
namespace Go.Proofs.YtkakfmcjiabjjaaGreatDoor
set_option linter.unusedVariables false
set_option linter.unusedSimpArgs false
set_option linter.unusedSectionVars false
set_option linter.unnecessarySimpa false
open Go Go.Sep
def lays189_ren : Go.Shelf.Ren := ⟨fun | 189 => 47 | 125 => 67 | 257 => 66 | 128 => 92 | 129 => 93 | 294 => 83 | 295 => 84 | 296 => 85 | 297 => 86 | 298 => 87 | 299 => 88 | 216 => 89 | 300 => 90 | 301 => 91 | 328 => 120 | 329 => 121 | 330 => 122 | 331 => 123 | 332 => 124 | 215 => 125 | 343 => 149 | n => n, fun | 28 => 22 | 3 => 3 | 46 => 137 | 0 => 0 | 51 => 180 | 53 => 182 | 4 => 4 | 183 => 172 | 182 => 171 | 131 => 177 | 5 => 5 | 9 => 9 | 218 => 207 | 222 => 211 | 228 => 237 | 229 => 238 | n => n, fun | n => n⟩
theorem lays189 : Go.Proofs.Lays.n189 Tryz.prog lays189_ren := {
  mixed := by kernel_rfl
  f125 := Tryz.func67.trans (congrArg some (by kernel_rfl))
  f128 := Tryz.func92.trans (congrArg some (by kernel_rfl))
  f129 := Tryz.func93.trans (congrArg some (by kernel_rfl))
  f189 := Tryz.func47.trans (congrArg some (by kernel_rfl))
  f215 := Tryz.func125.trans (congrArg some (by kernel_rfl))
  f216 := Tryz.func89.trans (congrArg some (by kernel_rfl))
  f257 := Tryz.func66.trans (congrArg some (by kernel_rfl))
  f294 := Tryz.func83.trans (congrArg some (by kernel_rfl))
  f295 := Tryz.func84.trans (congrArg some (by kernel_rfl))
  f296 := Tryz.func85.trans (congrArg some (by kernel_rfl))
  f297 := Tryz.func86.trans (congrArg some (by kernel_rfl))
  f298 := Tryz.func87.trans (congrArg some (by kernel_rfl))
  f299 := Tryz.func88.trans (congrArg some (by kernel_rfl))
  f300 := Tryz.func90.trans (congrArg some (by kernel_rfl))
  f301 := Tryz.func91.trans (congrArg some (by kernel_rfl))
  f328 := Tryz.func120.trans (congrArg some (by kernel_rfl))
  f329 := Tryz.func121.trans (congrArg some (by kernel_rfl))
  f330 := Tryz.func122.trans (congrArg some (by kernel_rfl))
  f331 := Tryz.func123.trans (congrArg some (by kernel_rfl))
  f332 := Tryz.func124.trans (congrArg some (by kernel_rfl))
  f343 := Tryz.func149.trans (congrArg some (by kernel_rfl))
  t0 := Tryz.underlying0
  a0 := Tryz.isAgg0
  z0 := Tryz.sizeOf0
  v0 := Tryz.zeroValue0
  t3 := Tryz.underlying3
  a3 := Tryz.isAgg3
  z3 := Tryz.sizeOf3
  v3 := Tryz.zeroValue3
  t4 := Tryz.underlying4
  a4 := Tryz.isAgg4
  z4 := Tryz.sizeOf4
  v4 := Tryz.zeroValue4
  t5 := Tryz.underlying5
  a5 := Tryz.isAgg5
  z5 := Tryz.sizeOf5
  v5 := Tryz.zeroValue5
  t9 := Tryz.underlying9
  a9 := Tryz.isAgg9
  z9 := Tryz.sizeOf9
  v9 := Tryz.zeroValue9
  t28 := Tryz.underlying22
  a28 := Tryz.isAgg22
  z28 := Tryz.sizeOf22
  v28 := Tryz.zeroValue22
  t46 := Tryz.underlying137
  a46 := Tryz.isAgg137
  z46 := Tryz.sizeOf137
  v46 := Tryz.zeroValue137
  t51 := Tryz.underlying180
  a51 := Tryz.isAgg180
  z51 := Tryz.sizeOf180
  v51 := Tryz.zeroValue180
  t53 := Tryz.underlying182
  a53 := Tryz.isAgg182
  z53 := Tryz.sizeOf182
  v53 := Tryz.zeroValue182
  t131 := Tryz.underlying177
  a131 := Tryz.isAgg177
  z131 := Tryz.sizeOf177
  v131 := Tryz.zeroValue177
  t182 := Tryz.underlying171
  a182 := Tryz.isAgg171
  z182 := Tryz.sizeOf171
  v182 := Tryz.zeroValue171
  t183 := Tryz.underlying172
  a183 := Tryz.isAgg172
  z183 := Tryz.sizeOf172
  v183 := Tryz.zeroValue172
  t218 := Tryz.underlying207
  a218 := Tryz.isAgg207
  z218 := Tryz.sizeOf207
  v218 := Tryz.zeroValue207
  t222 := Tryz.underlying211
  a222 := Tryz.isAgg211
  z222 := Tryz.sizeOf211
  v222 := Tryz.zeroValue211
  t228 := Tryz.underlying237
  a228 := Tryz.isAgg237
  z228 := Tryz.sizeOf237
  v228 := Tryz.zeroValue237
  t229 := Tryz.underlying238
  a229 := Tryz.isAgg238
  z229 := Tryz.sizeOf238
  v229 := Tryz.zeroValue238 }

theorem asc_of_sort (l : List Int) : Asc (l.mergeSort fun x y => decide (x ≤ y)) := by
  have h := List.pairwise_mergeSort (le := fun x y : Int => decide (x ≤ y)) (fun a b c h1 h2 => by simp at *; omega) (fun a b => by simp; omega) l
  exact h.imp fun {a b} h => by
    have h := of_decide_eq_true h
    unfold cmpI
    omega
/-- slices.Sort of ints, of any length. -/
theorem sortI_all (N : Nat) (hN : N ≤ 1000000) : SortI N := by
  intro ad len cap l hlen
  rcases ad with _ | ⟨b, off, tag⟩
  · refine fun g w F s => ?_
    have hz : len = 0 := by
      rcases s.slOpen with ⟨_, h, _⟩ | ⟨b, pre, rest, h, _⟩
      · exact h
      · cases h
    exact sortI12 none len cap l (by omega) g w F s
  · intro g w F s
    rcases Sat.slOpen s with ⟨h, _⟩ | ⟨b', pre, rest, h1, h2, h3, h4, h5, s'⟩
    · cases h
    · cases h1
      obtain ⟨hH, hb, hput⟩ := Sat.sortRow s'
      have hll : l.length = len := by simpa using h2
      subst hll
      refine (Any.slices_Sort_int lays189 b pre.length cap l w hH hb (by omega)).mono ?_
      rintro e w' ⟨rfl, n, os, rfl⟩
      have hp : (l.mergeSort fun x y => decide (x ≤ y)).Perm l := List.mergeSort_perm l _
      refine ⟨l.mergeSort fun x y => decide (x ≤ y), ⟨hp, asc_of_sort l⟩, rfl, ?_⟩
      refine Sat.conseq (l := [row true b 3 (pre ++ ((l.mergeSort fun x y => decide (x ≤ y)).map (Value.int .i64) ++ rest))]) (m := [sl true 3 1 (some ⟨b, pre.length, none⟩) l.length cap ((l.mergeSort fun x y => decide (x ≤ y)).map (Value.int .i64))]) (hput _ n os hp.length_eq) fun h e => one_sepL.2 (.inr ⟨b, pre, rest, ⟨rfl, by simp [hp.length_eq], by simpa [hp.length_eq] using h3, h4, ?_⟩, one_sepL.1 e⟩)
      intro v hv
      obtain ⟨n, -, rfl⟩ := List.mem_map.1 hv
      rfl
end Go.Proofs.YtkakfmcjiabjjaaGreatDoor
