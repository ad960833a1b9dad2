import Derived.Test.YtkakfmcjiabjjaaGreatDoorMoveC
namespace Go.Proofs.YtkakfmcjiabjjaaGreatDoor
set_option linter.unusedVariables false
set_option linter.unusedSimpArgs false
set_option linter.unusedSectionVars false
set_option linter.unnecessarySimpa false
open Go Go.Sep
attribute [local irreducible] row sl mapO held exL allR byt mapI slr
def SplitOK (l : List HomeM) (a b sh : Int) : Prop := VH 12 l ∧ (0 ≤ sh ∧ sh < 12) ∧ 1 ≤ a ∧ a ≤ b ∧ b ≤ 1073741824
def JoinOK (l : List HomeM) (sh into : Int) : Prop := VH 12 l ∧ (0 ≤ sh ∧ sh < 12) ∧ (0 ≤ into ∧ into < 12)
/-- Increasing numbers with another one. -/
def putM : List Int → Int → List Int
  | [], n => [n]
  | x :: r, n => if x < n then x :: putM r n else if x = n then x :: r else n :: x :: r
theorem put_at : ∀ {l : List Int} {k : Nat} {n : Int}, k ≤ l.length → (∀ (j : Nat) (x : Int), j < k → l[j]? = some x → x < n) → (∀ x, l[k]? = some x → n ≤ x) → putM l n = if l[k]? = some n then l else l.take k ++ (n :: l.drop k)
  | [], k, n, hk, _, _ => by
    simp at hk
    subst hk
    rfl
  | x :: r, 0, n, _, _, h2 => by
    have := h2 x rfl
    by_cases h : x = n
    · subst h; simp [putM]
    · simp [putM, h]; omega
  | x :: r, k + 1, n, hk, h1, h2 => by
    have hx := h1 0 x (by omega) rfl
    have ih := put_at (l := r) (k := k) (n := n) (by simpa using hk) (fun j y hj hy => h1 (j + 1) y (by omega) (by simpa using hy)) (fun y hy => h2 y (by simpa using hy))
    rw [putM, if_pos hx, ih]
    by_cases h : r[k]? = some n <;> simp [h]
theorem putM_len : ∀ (l : List Int) (n : Int), (putM l n).length ≤ l.length + 1
  | [], _ => by simp [putM]
  | x :: r, n => by
    have := putM_len r n
    unfold putM
    split
    · simp; omega
    · split <;> simp
def putF (a : List Int) (h : HomeM) : List Int := putM a h.frm
/-- The accounts at which a shard may change. -/
def pointsM (l : List HomeM) (a b : Int) : List Int :=
  let all := putM (l.foldl putF []) a
  if b < 1073741824 then putM all (b + 1) else all
def shardAt (l : List HomeM) (a b sh : Int) (x : Int) : Int := if a ≤ x ∧ x ≤ b then sh else findM l x
def refSplitM (l : List HomeM) (a b sh : Int) : List HomeM := normM ((pointsM l a b).zip ((pointsM l a b).map (shardAt l a b sh)))
def joinS (s i : Int) (h : HomeM) : Int := if h.shard = s then i else h.shard
def refJoinM (l : List HomeM) (s i : Int) : List HomeM := normM ((l.map (·.frm)).zip (l.map (joinS s i)))
theorem foldl_put_len : ∀ (l : List HomeM) (a : List Int), (l.foldl putF a).length ≤ a.length + l.length
  | [], a => by simp
  | h :: l, a => by
    have h1 := putM_len a h.frm
    have h2 := foldl_put_len l (putF a h)
    simp only [List.foldl_cons, List.length_cons]
    unfold putF at h2 ⊢
    omega
theorem foldl_more {l : List HomeM} {i : Nat} {h : HomeM} (e : l[i]? = some h) : (l.take (i + 1)).foldl putF [] = putM ((l.take i).foldl putF []) h.frm := by
  rw [List.take_add_one, e, List.foldl_append]
  rfl
theorem homes_eq {l m : List HomeM} (hl : l.length = m.length) (h : ∀ (i : Nat) (x y : HomeM), l[i]? = some x → m[i]? = some y → x.frm = y.frm ∧ x.shard = y.shard) : l = m := by
  refine List.ext_getElem hl fun i h1 h2 => ?_
  obtain ⟨e1, e2⟩ := h i l[i] m[i] (List.getElem?_eq_getElem h1) (List.getElem?_eq_getElem h2)
  cases hx : l[i]
  cases hy : m[i]
  rw [hx, hy] at e1 e2
  simp only at e1 e2
  rw [e1, e2]
instance : DecidableEq HomeM := fun x y => by
  cases x; cases y
  rename_i a b c d
  exact if h : a = c ∧ b = d then .isTrue (by rw [h.1, h.2]) else .isFalse (fun e => h (by cases e; exact ⟨rfl, rfl⟩))
set_option maxRecDepth 20000 in
set_option maxHeartbeats 1000000 in
theorem shards_spec (ad : Option Addr) (len cap : Nat) (l : List Int) (hlen : len ≤ 1000000) :
  Triple Tryz.prog 39 #[.slice ad len cap] [sl true 3 1 ad len cap (l.map (Value.int .i64))] (Unit) (fun _ => True) (fun _ => .bool (!l.any fun x => decide (x < 0 ∨ 12 ≤ x))) (fun _ => [sl true 3 1 ad len cap (l.map (Value.int .i64))]) := by
 refine Triple.of_body (args := [.slice ad len cap]) Tryz.func39 rfl Tryz.ntmps39 (by simp) (fun g F => ?_)
 dsimp only [numb, List.cons_append, List.nil_append]
 refine WK.seq ?_
 refine WK.region ?_
 refine Ly y_assign ?_
 refine WL.done ?_
 refine WK.seq ?_
 refine WK.sat (fun w s => Sat.pack (l := []) s) ?_
 refine WK.region ?_
 refine Ly y_move ?_
 refine Le (e_call (by exact Tryz.call44) (t := containsFunc_int _ [] _ _ shards1_pred true ad len cap l hlen)) ?_
 rintro _ -
 try dsimp only
 refine Ly y_not ?_
 refine Ly y_assign ?_
 refine WL.done ?_
 refine WK.ret ?_
 repeat (first | refine RQ.block ?_ | refine RQ.then_ ?_)
 refine RQ.body (results1 (by rfl) (by rfl)) (fun w s => ?_)
 exact ⟨(), trivial, rfl, s.toCs (by repeat (first | exact SelL.nil | exact SelL.self | apply SelL.cons | exact Sel.here | apply Sel.there | apply SelL.skip))⟩
set_option maxRecDepth 20000 in
set_option maxHeartbeats 2000000 in
theorem split_spec (p : Bool) (ad : Option Addr) (len cap : Nat) (l : List HomeM) (hlen : len ≤ 100000) (a b sh : Int) :
  Triple Tryz.prog 18 #[.slice ad len cap, .int .i64 a, .int .i64 b, .int .i64 sh] [sl p 84 2 ad len cap (homesC l)] (Option (Option Addr × Nat)) (fun x => x.isSome = true ↔ SplitOK l a b sh) (fun x => match x with | none => .tuple #[.slice none 0 0, .int .i64 1] | some x => .tuple #[.slice x.1 (changedM (splitRw a b sh) l).length x.2, .int .i64 0]) (fun x => match x with | none => [sl p 84 2 ad len cap (homesC l)] | some x => [sl true 84 2 x.1 (changedM (splitRw a b sh) l).length x.2 (homesC (changedM (splitRw a b sh) l)), sl p 84 2 ad len cap (homesC l)]) := by
 refine Triple.of_body (args := [.slice ad len cap, .int .i64 a, .int .i64 b, .int .i64 sh]) Tryz.func18 rfl Tryz.ntmps18 (by simp) (fun g F => ?_)
 dsimp only [numb, List.cons_append, List.nil_append]
 refine WK.seq ?_
 refine WK.region ?_
 refine Le e_box ?_
 rintro b5 -
 try dsimp only
 refine Le e_box ?_
 rintro b6 -
 try dsimp only
 refine Le e_box ?_
 rintro b7 -
 try dsimp only
 refine Ly y_assign ?_
 refine Ly y_assign ?_
 refine WL.done ?_
 refine WK.seq ?_
 refine WK.seq ?_
 refine WK.region ?_
 refine Ly y_move ?_
 refine Le (e_call (by exact Tryz.call35) (t := possible_spec p ad len cap l (by omega))) ?_
 rintro _ -
 try dsimp only
 refine Ly y_not ?_
 refine Ly y_move ?_
 refine WL.split (d := 13) (by rfl) (fun hc13 => ?_) (fun hc13 => ?_)
 ·
  refine Lz ?_
  refine Lz ?_
  refine Lz ?_
  refine Lz ?_
  refine Ly y_pick_true ?_
  refine Ly y_move ?_
  refine Lz ?_
  refine Lz ?_
  refine Lz ?_
  refine Ly y_pick_true ?_
  refine Ly y_move ?_
  refine Lz ?_
  refine Lz ?_
  refine Lz ?_
  refine Ly y_pick_true ?_
  refine Ly y_move ?_
  refine Lz ?_
  refine Lz ?_
  refine Lz ?_
  refine Ly y_pick_true ?_
  refine WL.done ?_
  refine Kcond (ht := fun _ => ?_) (hf := fun h => by cases h)
  refine WK.seq ?_
  refine WK.region ?_
  refine Ly y_assign ?_
  refine Ly y_assign ?_
  refine WL.done ?_
  refine WK.ret ?_
  repeat (first | refine RQ.block ?_ | refine RQ.then_ ?_)
  refine RQ.body (results2 (by rfl) (by rfl) (by rfl)) (fun w s => ?_)
  refine ⟨none, ?_, rfl, s.toCs (by repeat (first | exact SelL.nil | exact SelL.self | apply SelL.cons | exact Sel.here | apply Sel.there | apply SelL.skip))⟩
  constructor
  · intro h
    cases h
  · rintro ⟨h1, h2, h3, h4, h5⟩
    exfalso
    simp at hc13
    exact hc13 h1
 ·
  have hv := (by simpa using hc13)
  have hb : ∀ h ∈ l, 1 ≤ h.frm ∧ h.frm ≤ 1073741824 := fun x hx => by
    obtain ⟨j, hj⟩ := List.getElem?_of_mem hx
    exact ⟨VH_frm hv.2.2.2 hj, (hv.2.2.2 j x hj).2.2.1⟩
  refine Lyg (y_load (ha := by exact Tryz.isAgg3)) ?_
  refine Leg (e_mkSlice1 (hu := by exact Tryz.runUnderlying22) (hk := by exact Tryz.sizeOf3) (hz := by exact Tryz.zeroValue3) (hk0 := by rfl) (hb := by decide) (h1 := by rfl)) ?_
  rintro b15 -
  try dsimp only
  refine Leg (e_call (by exact Tryz.call39) (t := (shards_spec (some ⟨b15, 0, none⟩) 1 1 [sh] (by omega)))) ?_
  rintro _ -
  try dsimp only
  refine Lyg y_not ?_
  refine Ly y_pick_false ?_
  refine Ly y_move ?_
  refine WL.split (d := 19) (by rfl) (fun hc19 => ?_) (fun hc19 => ?_)
  ·
   refine Lz ?_
   refine Lz ?_
   refine Lz ?_
   refine Ly y_pick_true ?_
   refine Ly y_move ?_
   refine Lz ?_
   refine Lz ?_
   refine Lz ?_
   refine Ly y_pick_true ?_
   refine Ly y_move ?_
   refine Lz ?_
   refine Lz ?_
   refine Lz ?_
   refine Ly y_pick_true ?_
   refine WL.done ?_
   refine Kcond (ht := fun _ => ?_) (hf := fun h => by cases h)
   refine WK.seq ?_
   refine WK.region ?_
   refine Ly y_assign ?_
   refine Ly y_assign ?_
   refine WL.done ?_
   refine WK.ret ?_
   repeat (first | refine RQ.block ?_ | refine RQ.then_ ?_)
   refine RQ.body (results2 (by rfl) (by rfl) (by rfl)) (fun w s => ?_)
   refine ⟨none, ?_, rfl, s.toCs (by repeat (first | exact SelL.nil | exact SelL.self | apply SelL.cons | exact Sel.here | apply Sel.there | apply SelL.skip))⟩
   constructor
   · intro h
     cases h
   · rintro ⟨h1, h2, h3, h4, h5⟩
     exfalso
     simp at hc19
     omega
  ·
   have hs : 0 ≤ sh ∧ sh < 12 := by simp at hc19; omega
   refine Lyg (y_load (ha := by exact Tryz.isAgg3)) ?_
   refine Leg (e_call (by exact Tryz.call34) (t := account_spec a)) ?_
   rintro _ -
   try dsimp only
   refine Lyg y_not ?_
   refine Ly y_pick_false ?_
   refine Ly y_move ?_
   refine WL.split (d := 24) (by rfl) (fun hc24 => ?_) (fun hc24 => ?_)
   ·
    refine Lz ?_
    refine Lz ?_
    refine Lz ?_
    refine Ly y_pick_true ?_
    refine Ly y_move ?_
    refine Lz ?_
    refine Lz ?_
    refine Lz ?_
    refine Ly y_pick_true ?_
    refine WL.done ?_
    refine Kcond (ht := fun _ => ?_) (hf := fun h => by cases h)
    refine WK.seq ?_
    refine WK.region ?_
    refine Ly y_assign ?_
    refine Ly y_assign ?_
    refine WL.done ?_
    refine WK.ret ?_
    repeat (first | refine RQ.block ?_ | refine RQ.then_ ?_)
    refine RQ.body (results2 (by rfl) (by rfl) (by rfl)) (fun w s => ?_)
    refine ⟨none, ?_, rfl, s.toCs (by repeat (first | exact SelL.nil | exact SelL.self | apply SelL.cons | exact Sel.here | apply Sel.there | apply SelL.skip))⟩
    constructor
    · intro h
      cases h
    · rintro ⟨h1, h2, h3, h4, h5⟩
      exfalso
      simp at hc24
      omega
   ·
    have ha : 1 ≤ a ∧ a ≤ 1073741824 := by simpa using hc24
    refine Lyg (y_load (ha := by exact Tryz.isAgg3)) ?_
    refine Leg (e_call (by exact Tryz.call34) (t := account_spec b)) ?_
    rintro _ -
    try dsimp only
    refine Lyg y_not ?_
    refine Ly y_pick_false ?_
    refine Ly y_move ?_
    refine WL.split (d := 29) (by rfl) (fun hc29 => ?_) (fun hc29 => ?_)
    ·
     refine Lz ?_
     refine Lz ?_
     refine Lz ?_
     refine Ly y_pick_true ?_
     refine WL.done ?_
     refine Kcond (ht := fun _ => ?_) (hf := fun h => by cases h)
     refine WK.seq ?_
     refine WK.region ?_
     refine Ly y_assign ?_
     refine Ly y_assign ?_
     refine WL.done ?_
     refine WK.ret ?_
     repeat (first | refine RQ.block ?_ | refine RQ.then_ ?_)
     refine RQ.body (results2 (by rfl) (by rfl) (by rfl)) (fun w s => ?_)
     refine ⟨none, ?_, rfl, s.toCs (by repeat (first | exact SelL.nil | exact SelL.self | apply SelL.cons | exact Sel.here | apply Sel.there | apply SelL.skip))⟩
     constructor
     · intro h
       cases h
     · rintro ⟨h1, h2, h3, h4, h5⟩
       exfalso
       simp at hc29
       omega
    ·
     have hbb : 1 ≤ b ∧ b ≤ 1073741824 := by simpa using hc29
     refine Lyg (y_load (ha := by exact Tryz.isAgg3)) ?_
     refine Lyg (y_load (ha := by exact Tryz.isAgg3)) ?_
     refine Lyg y_lss ?_
     refine Ly y_pick_false ?_
     refine WL.done ?_
     refine Kcond (ht := fun hc33 => ?_) (hf := fun hc33 => ?_)
     ·
      have hc33 := of_decide_eq_true hc33
      refine WK.seq ?_
      refine WK.region ?_
      refine Ly y_assign ?_
      refine Ly y_assign ?_
      refine WL.done ?_
      refine WK.ret ?_
      repeat (first | refine RQ.block ?_ | refine RQ.then_ ?_)
      refine RQ.body (results2 (by rfl) (by rfl) (by rfl)) (fun w s => ?_)
      refine ⟨none, ?_, rfl, s.toCs (by repeat (first | exact SelL.nil | exact SelL.self | apply SelL.cons | exact Sel.here | apply Sel.there | apply SelL.skip))⟩
      constructor
      · intro h
        cases h
      · rintro ⟨h1, h2, h3, h4, h5⟩
        exfalso
        omega
     ·
      have hc33 := of_decide_eq_false hc33
      refine WK.skip ?_
      refine WK.seq ?_
      refine WK.sat (fun w s => Sat.pack (s.sel (As := [row true b5 3 [.int .i64 a], row true b6 3 [.int .i64 b], row true b7 3 [.int .i64 sh]]) (by repeat (first | exact SelL.nil | exact SelL.self | apply SelL.cons | exact Sel.here | apply Sel.there | apply SelL.skip)))) ?_
      refine WK.region ?_
      refine Ly y_move ?_
      refine Ly y_mkFunc ?_
      refine Le (e_call (by exact Tryz.call40) (t := changed_spec _ _ _ _ (split_rw b5 b6 b7 a b sh hbb) p ad len cap l (by omega) hb)) ?_
      rintro ⟨ad36, cap36⟩ -
      try dsimp only
      refine Ly y_assign ?_
      refine Ly y_assign ?_
      refine WL.done ?_
      refine WK.ret ?_
      repeat (first | refine RQ.block ?_ | refine RQ.then_ ?_)
      refine RQ.body (results2 (by rfl) (by rfl) (by rfl)) (fun w s => ?_)
      refine ⟨some (ad36, cap36), ⟨fun _ => ⟨hv, hs, ha.1, by omega, hbb.2⟩, fun _ => rfl⟩, rfl, s.toCs (by repeat (first | exact SelL.nil | exact SelL.self | apply SelL.cons | exact Sel.here | apply Sel.there | apply SelL.skip))⟩
set_option maxRecDepth 20000 in
set_option maxHeartbeats 2000000 in
theorem join_spec (p : Bool) (ad : Option Addr) (len cap : Nat) (l : List HomeM) (hlen : len ≤ 100000) (sh into : Int) :
  Triple Tryz.prog 19 #[.slice ad len cap, .int .i64 sh, .int .i64 into] [sl p 84 2 ad len cap (homesC l)] (Option (Option Addr × Nat)) (fun x => x.isSome = true ↔ JoinOK l sh into) (fun x => match x with | none => .tuple #[.slice none 0 0, .int .i64 1] | some x => .tuple #[.slice x.1 (changedM (joinRw sh into) l).length x.2, .int .i64 0]) (fun x => match x with | none => [sl p 84 2 ad len cap (homesC l)] | some x => [sl true 84 2 x.1 (changedM (joinRw sh into) l).length x.2 (homesC (changedM (joinRw sh into) l)), sl p 84 2 ad len cap (homesC l)]) := by
 refine Triple.of_body (args := [.slice ad len cap, .int .i64 sh, .int .i64 into]) Tryz.func19 rfl Tryz.ntmps19 (by simp) (fun g F => ?_)
 dsimp only [numb, List.cons_append, List.nil_append]
 refine WK.seq ?_
 refine WK.region ?_
 refine Le e_box ?_
 rintro b4 -
 try dsimp only
 refine Le e_box ?_
 rintro b5 -
 try dsimp only
 refine Ly y_assign ?_
 refine Ly y_assign ?_
 refine WL.done ?_
 refine WK.seq ?_
 refine WK.seq ?_
 refine WK.region ?_
 refine Ly y_move ?_
 refine Le (e_call (by exact Tryz.call35) (t := possible_spec p ad len cap l (by omega))) ?_
 rintro _ -
 try dsimp only
 refine Ly y_not ?_
 refine Ly y_move ?_
 refine WL.split (d := 11) (by rfl) (fun hc11 => ?_) (fun hc11 => ?_)
 ·
  refine Lz ?_
  refine Lz ?_
  refine Lz ?_
  refine Lz ?_
  refine Lz ?_
  refine Ly y_pick_true ?_
  refine WL.done ?_
  refine Kcond (ht := fun _ => ?_) (hf := fun h => by cases h)
  refine WK.seq ?_
  refine WK.region ?_
  refine Ly y_assign ?_
  refine Ly y_assign ?_
  refine WL.done ?_
  refine WK.ret ?_
  repeat (first | refine RQ.block ?_ | refine RQ.then_ ?_)
  refine RQ.body (results2 (by rfl) (by rfl) (by rfl)) (fun w s => ?_)
  refine ⟨none, ?_, rfl, s.toCs (by repeat (first | exact SelL.nil | exact SelL.self | apply SelL.cons | exact Sel.here | apply Sel.there | apply SelL.skip))⟩
  constructor
  · intro h
    cases h
  · rintro ⟨h1, h2, h3⟩
    exfalso
    simp at hc11
    exact hc11 h1
 ·
  have hv := (by simpa using hc11)
  have hb : ∀ h ∈ l, 1 ≤ h.frm ∧ h.frm ≤ 1073741824 := fun x hx => by
    obtain ⟨j, hj⟩ := List.getElem?_of_mem hx
    exact ⟨VH_frm hv.2.2.2 hj, (hv.2.2.2 j x hj).2.2.1⟩
  refine Lyg (y_load (ha := by exact Tryz.isAgg3)) ?_
  refine Lyg (y_load (ha := by exact Tryz.isAgg3)) ?_
  refine Leg (e_mkSliceN (by exact Tryz.runUnderlying22) (by exact Tryz.sizeOf3) (by exact Tryz.zeroValue3) (hb := by decide) (hk0 := by rfl) (hl0 := by rfl) (h1 := by rfl)) ?_
  rintro b14 -
  try dsimp only [List.cons_append, List.nil_append]
  try dsimp only
  refine Leg (e_call (by exact Tryz.call39) (t := (shards_spec (some ⟨b14, 0, none⟩) 2 2 [sh, into] (by omega)))) ?_
  rintro _ -
  try dsimp only
  refine Lyg y_not ?_
  refine Ly y_pick_false ?_
  refine WL.done ?_
  refine Kcond (ht := fun hc17 => ?_) (hf := fun hc17 => ?_)
  ·
   refine WK.seq ?_
   refine WK.region ?_
   refine Ly y_assign ?_
   refine Ly y_assign ?_
   refine WL.done ?_
   refine WK.ret ?_
   repeat (first | refine RQ.block ?_ | refine RQ.then_ ?_)
   refine RQ.body (results2 (by rfl) (by rfl) (by rfl)) (fun w s => ?_)
   refine ⟨none, ?_, rfl, s.toCs (by repeat (first | exact SelL.nil | exact SelL.self | apply SelL.cons | exact Sel.here | apply Sel.there | apply SelL.skip))⟩
   constructor
   · intro h
     cases h
   · rintro ⟨h1, h2, h3⟩
     exfalso
     simp at hc17
     omega
  ·
   have hs : (0 ≤ sh ∧ sh < 12) ∧ (0 ≤ into ∧ into < 12) := by simp at hc17; omega
   refine WK.skip ?_
   refine WK.seq ?_
   refine WK.sat (fun w s => Sat.pack (s.sel (As := [row true b4 3 [.int .i64 sh], row true b5 3 [.int .i64 into]]) (by repeat (first | exact SelL.nil | exact SelL.self | apply SelL.cons | exact Sel.here | apply Sel.there | apply SelL.skip)))) ?_
   refine WK.region ?_
   refine Ly y_move ?_
   refine Ly y_mkFunc ?_
   refine Le (e_call (by exact Tryz.call40) (t := changed_spec _ _ _ _ (join_rw b4 b5 sh into) p ad len cap l (by omega) hb)) ?_
   rintro ⟨ad20, cap20⟩ -
   try dsimp only
   refine Ly y_assign ?_
   refine Ly y_assign ?_
   refine WL.done ?_
   refine WK.ret ?_
   repeat (first | refine RQ.block ?_ | refine RQ.then_ ?_)
   refine RQ.body (results2 (by rfl) (by rfl) (by rfl)) (fun w s => ?_)
   refine ⟨some (ad20, cap20), ⟨fun _ => ⟨hv, hs.1, hs.2⟩, fun _ => rfl⟩, rfl, s.toCs (by repeat (first | exact SelL.nil | exact SelL.self | apply SelL.cons | exact Sel.here | apply Sel.there | apply SelL.skip))⟩
set_option maxRecDepth 20000 in
set_option maxHeartbeats 2000000 in
theorem put_spec (ad : Option Addr) (len cap : Nat) (l : List Int) (n : Int) (hlen : len ≤ 1000000) :
  Triple Tryz.prog 43 #[.slice ad len cap, .int .i64 n] [sl true 3 1 ad len cap (l.map (Value.int .i64))] (Option Addr × Nat) (fun _ => True) (fun x => .slice x.1 (putM l n).length x.2) (fun x => [sl true 3 1 x.1 (putM l n).length x.2 ((putM l n).map (Value.int .i64))]) := by
 refine Triple.of_body (args := [.slice ad len cap, .int .i64 n]) Tryz.func43 rfl Tryz.ntmps43 (by simp) (fun g F => ?_)
 dsimp only [numb, List.cons_append, List.nil_append]
 refine WK.know (fun w s => Sat.slLen (s.sel1 (A := sl true 3 1 ad len cap (l.map (Value.int .i64))) (by repeat (first | exact .here | apply Sel.there)))) (fun hkn => ?_)
 obtain ⟨n1, n1c, -⟩ := hkn
 simp only [Nat.mul_one, List.length_map] at n1
 refine WK.seq ?_
 refine WK.region ?_
 refine Ly y_assign ?_
 refine WL.done ?_
 refine WK.seq ?_
 refine WK.region ?_
 refine Ly y_assign ?_
 refine WL.done ?_
 refine WK.seq ?_
 refine WK.cut (ι := Nat) (fun k => k ≤ len ∧ (∀ (j : Nat) (x : Int), j < k → l[j]? = some x → x < n) ∧ ∀ x, l[k]? = some x → n ≤ x) (fun k => [(0, .slice ad len cap), (1, .int .i64 n), (5, .int .i64 (k : Int))]) (fun _ => sl true 3 1 ad len cap (l.map (Value.int .i64)) :: F) ?_ ?_
 ·
  rintro k ⟨hk, hk1, hk2⟩
  have hput := put_at (by omega) hk1 hk2
  refine WK.seq ?_
  refine WK.seq ?_
  refine WK.region ?_
  refine Ly y_move ?_
  refine Ly y_move ?_
  refine Ly (y_len (hu := by exact Tryz.runUnderlying22)) ?_
  refine Ly y_lss ?_
  refine Ly y_move ?_
  refine WL.split (d := 25) (by rfl) (fun hc25 => ?_) (fun hc25 => ?_)
  ·
   have hc25 := of_decide_eq_true hc25
   obtain ⟨x, hx⟩ : ∃ x, l[k]? = some x := ⟨_, List.getElem?_eq_getElem (by omega)⟩
   refine Lyg y_move ?_
   refine Lyg y_move ?_
   refine Lyg (y_indexAddrS (hu := by exact Tryz.runUnderlying22) (hz := by exact Tryz.sizeOf3) (j := k) (hi := by first | rfl | omega) (hj' := by omega) (hj := by omega) (hr := by exact Nat.mul_one _)) ?_
   refine Lyg (y_loadS (ha := by exact Tryz.isAgg3) (hv := (by rw [List.getElem?_map, hx]; rfl))) ?_
   refine Lyg y_move ?_
   refine Lyg y_eql ?_
   refine Ly y_pick_true ?_
   refine WL.done ?_
   refine Kcond (ht := fun hc32 => ?_) (hf := fun hc32 => ?_)
   ·
    have hc32 := of_decide_eq_true hc32
    refine WK.seq ?_
    refine WK.region ?_
    refine Ly y_move ?_
    refine Ly y_assign ?_
    refine WL.done ?_
    refine WK.ret ?_
    repeat (first | refine RQ.block ?_ | refine RQ.then_ ?_)
    refine RQ.body (results1 (by rfl) (by rfl)) (fun w s => ?_)
    rw [hx, if_pos (by rw [hc32])] at hput
    refine ⟨(ad, cap), trivial, by rw [hput, n1], ?_⟩
    rw [hput, n1]
    exact s.toCs (by repeat (first | exact SelL.nil | exact SelL.self | apply SelL.cons | exact Sel.here | apply Sel.there | apply SelL.skip))
   ·
    have hc32 := of_decide_eq_false hc32
    refine WK.skip ?_
    refine WK.seq ?_
    have hne : l[k]? ≠ some n := by
      rw [hx]
      intro h
      cases h
      exact hc32 rfl
    rw [if_neg hne] at hput
    refine WK.sat (fun w s => Sat.nilSl s true 3 1) ?_
    refine WK.region ?_
    refine Ly y_assign ?_
    refine WL.done ?_
    refine WK.seq ?_
    refine WK.region ?_
    refine Ly y_move ?_
    refine Ly y_move ?_
    refine Ly y_move ?_
    refine Ly (y_slice_hi (hu := by exact Tryz.runUnderlying22) (hs := by exact Tryz.sizeOf3) (h := k) (hi := by first | rfl | omega) (hh := by omega)) ?_
    refine Le (e_appendX (n2 := k) (ys := (l.take k).map (Value.int .i64)) (et := elem22) (hsrc := (fun w s => by have := Sat.srcHi (s.sel1 (A := sl true 3 1 ad len cap (l.map (Value.int .i64))) (by repeat (first | exact .here | apply Sel.there))) Tryz.underlying22 k (by omega); rw [Nat.mul_one, ← List.map_take] at this; exact this)) (hb := by omega) (hm := by omega)) ?_
    rintro ⟨ad38, cap38⟩ -
    try dsimp only
    refine Ly y_assign ?_
    refine WL.done ?_
    refine WK.seq ?_
    refine WK.region ?_
    refine Ly y_move ?_
    refine Ly y_move ?_
    refine Le (e_mkSlice1 (hu := by exact Tryz.runUnderlying22) (hk := by exact Tryz.sizeOf3) (hz := by exact Tryz.zeroValue3) (hk0 := by rfl) (hb := by decide) (h1 := by rfl)) ?_
    rintro b41 -
    try dsimp only
    refine Le (e_append (et := elem22) (htx := by exact Tryz.underlying22) (hb := by omega) (hm := by omega)) ?_
    rintro ⟨ad42, cap42⟩ -
    try dsimp only
    refine Ly y_assign ?_
    refine WL.done ?_
    refine WK.seq ?_
    refine WK.region ?_
    refine Ly y_move ?_
    refine Ly y_move ?_
    refine Ly y_move ?_
    refine Ly (y_slice_lo (hu := by exact Tryz.runUnderlying22) (hs := by exact Tryz.sizeOf3) (l := k) (hi := by first | rfl | omega) (hl := by omega)) ?_
    refine Le (e_appendX (n2 := len - k) (ys := (l.drop k).map (Value.int .i64)) (et := elem22) (hsrc := (fun w s => by have := Sat.srcLo (s.sel1 (A := sl true 3 1 ad len cap (l.map (Value.int .i64))) (by repeat (first | exact .here | apply Sel.there))) Tryz.underlying22 k (by omega); rw [Nat.mul_one, ← List.map_drop] at this; exact this)) (hb := by omega) (hm := by omega)) ?_
    rintro ⟨ad47, cap47⟩ -
    try dsimp only
    refine Ly y_assign ?_
    refine WL.done ?_
    refine WK.ret ?_
    repeat (first | refine RQ.block ?_ | refine RQ.then_ ?_)
    refine RQ.body (results1 (by rfl) (by rfl)) (fun w s => ?_)
    have hl1 : (putM l n).length = 0 + k + 1 + (len - k) := by rw [hput]; simp only [List.length_append, List.length_cons, List.length_take, List.length_drop]; omega
    refine ⟨(ad47, cap47), trivial, by rw [hl1], ?_⟩
    rw [hl1, hput]
    have e : (l.take k ++ n :: l.drop k).map (Value.int .i64) = [] ++ (l.take k).map (Value.int .i64) ++ [Value.int .i64 n] ++ (l.drop k).map (Value.int .i64) := by simp
    rw [e]
    exact s.toCs (by repeat (first | exact SelL.nil | exact SelL.self | apply SelL.cons | exact Sel.here | apply Sel.there | apply SelL.skip))
  ·
   have hc25 := of_decide_eq_false hc25
   refine Lz ?_
   refine Lz ?_
   refine Lz ?_
   refine Lz ?_
   refine Lz ?_
   refine Lz ?_
   refine Ly y_pick_false ?_
   refine WL.done ?_
   refine Kcond (ht := fun h => by cases h) (hf := fun _ => ?_)
   refine WK.skip ?_
   refine WK.seq ?_
   have hne : l[k]? ≠ some n := by
     rw [List.getElem?_eq_none (by omega)]
     simp
   rw [if_neg hne] at hput
   refine WK.sat (fun w s => Sat.nilSl s true 3 1) ?_
   refine WK.region ?_
   refine Ly y_assign ?_
   refine WL.done ?_
   refine WK.seq ?_
   refine WK.region ?_
   refine Ly y_move ?_
   refine Ly y_move ?_
   refine Ly y_move ?_
   refine Ly (y_slice_hi (hu := by exact Tryz.runUnderlying22) (hs := by exact Tryz.sizeOf3) (h := k) (hi := by first | rfl | omega) (hh := by omega)) ?_
   refine Le (e_appendX (n2 := k) (ys := (l.take k).map (Value.int .i64)) (et := elem22) (hsrc := (fun w s => by have := Sat.srcHi (s.sel1 (A := sl true 3 1 ad len cap (l.map (Value.int .i64))) (by repeat (first | exact .here | apply Sel.there))) Tryz.underlying22 k (by omega); rw [Nat.mul_one, ← List.map_take] at this; exact this)) (hb := by omega) (hm := by omega)) ?_
   rintro ⟨ad38, cap38⟩ -
   try dsimp only
   refine Ly y_assign ?_
   refine WL.done ?_
   refine WK.seq ?_
   refine WK.region ?_
   refine Ly y_move ?_
   refine Ly y_move ?_
   refine Le (e_mkSlice1 (hu := by exact Tryz.runUnderlying22) (hk := by exact Tryz.sizeOf3) (hz := by exact Tryz.zeroValue3) (hk0 := by rfl) (hb := by decide) (h1 := by rfl)) ?_
   rintro b41 -
   try dsimp only
   refine Le (e_append (et := elem22) (htx := by exact Tryz.underlying22) (hb := by omega) (hm := by omega)) ?_
   rintro ⟨ad42, cap42⟩ -
   try dsimp only
   refine Ly y_assign ?_
   refine WL.done ?_
   refine WK.seq ?_
   refine WK.region ?_
   refine Ly y_move ?_
   refine Ly y_move ?_
   refine Ly y_move ?_
   refine Ly (y_slice_lo (hu := by exact Tryz.runUnderlying22) (hs := by exact Tryz.sizeOf3) (l := k) (hi := by first | rfl | omega) (hl := by omega)) ?_
   refine Le (e_appendX (n2 := len - k) (ys := (l.drop k).map (Value.int .i64)) (et := elem22) (hsrc := (fun w s => by have := Sat.srcLo (s.sel1 (A := sl true 3 1 ad len cap (l.map (Value.int .i64))) (by repeat (first | exact .here | apply Sel.there))) Tryz.underlying22 k (by omega); rw [Nat.mul_one, ← List.map_drop] at this; exact this)) (hb := by omega) (hm := by omega)) ?_
   rintro ⟨ad47, cap47⟩ -
   try dsimp only
   refine Ly y_assign ?_
   refine WL.done ?_
   refine WK.ret ?_
   repeat (first | refine RQ.block ?_ | refine RQ.then_ ?_)
   refine RQ.body (results1 (by rfl) (by rfl)) (fun w s => ?_)
   have hl1 : (putM l n).length = 0 + k + 1 + (len - k) := by rw [hput]; simp only [List.length_append, List.length_cons, List.length_take, List.length_drop]; omega
   refine ⟨(ad47, cap47), trivial, by rw [hl1], ?_⟩
   rw [hl1, hput]
   have e : (l.take k ++ n :: l.drop k).map (Value.int .i64) = [] ++ (l.take k).map (Value.int .i64) ++ [Value.int .i64 n] ++ (l.drop k).map (Value.int .i64) := by simp
   rw [e]
   exact s.toCs (by repeat (first | exact SelL.nil | exact SelL.self | apply SelL.cons | exact Sel.here | apply Sel.there | apply SelL.skip))
 ·
  intro JB0
  refine WK.block ?_
  refine Kloop (ι := Nat) (fun k => k ≤ len ∧ ∀ (j : Nat) (x : Int), j < k → l[j]? = some x → x < n) (fun k => [(0, .slice ad len cap), (1, .int .i64 n), (5, .int .i64 (k : Int))]) (fun _ => sl true 3 1 ad len cap (l.map (Value.int .i64)) :: F) (fun k => len - k) (0) (⟨Nat.zero_le _, fun j x h => absurd h (Nat.not_lt_zero _)⟩) (round := ?_)
  rintro k ⟨hk, hk1⟩ N hN
  refine WK.seq ?_
  refine WK.seq ?_
  refine WK.region ?_
  refine Ly y_move ?_
  refine Ly y_move ?_
  refine Ly (y_len (hu := by exact Tryz.runUnderlying22)) ?_
  refine Ly y_lss ?_
  refine Ly y_move ?_
  refine WL.split (d := 11) (by rfl) (fun hc11 => ?_) (fun hc11 => ?_)
  ·
   have hc11 := of_decide_eq_true hc11
   obtain ⟨x, hx⟩ : ∃ x, l[k]? = some x := ⟨_, List.getElem?_eq_getElem (by omega)⟩
   refine Lyg y_move ?_
   refine Lyg y_move ?_
   refine Lyg (y_indexAddrS (hu := by exact Tryz.runUnderlying22) (hz := by exact Tryz.sizeOf3) (j := k) (hi := by first | rfl | omega) (hj' := by omega) (hj := by omega) (hr := by exact Nat.mul_one _)) ?_
   refine Lyg (y_loadS (ha := by exact Tryz.isAgg3) (hv := (by rw [List.getElem?_map, hx]; rfl))) ?_
   refine Lyg y_move ?_
   refine Lyg y_lss ?_
   refine Ly y_pick_true ?_
   refine WL.done ?_
   refine Kcond (ht := fun hc18 => ?_) (hf := fun hc18 => ?_)
   ·
    have hc18 := of_decide_eq_true hc18
    refine WK.skip ?_
    refine WK.block ?_
    refine WK.region ?_
    refine Ly y_move ?_
    refine Ly y_add ?_
    refine Ly y_assign ?_
    refine WL.done ?_
    refine WK.endBlock ?_
    refine Knext hN (k + 1) ⟨by omega, fun j y hj hy => ?_⟩ (by omega)
    by_cases hjk : j = k
    · subst hjk
      cases hx.symm.trans hy
      omega
    · exact hk1 j y (by omega) hy
   ·
    have hc18 := of_decide_eq_false hc18
    refine WK.exit ?_
    repeat (first | refine XQ.then_ ?_ | refine XQ.block (by rfl) ?_)
    refine XQ.here ?_
    refine Kgoto JB0 k ⟨hk, hk1, fun y hy => ?_⟩
    have hkl := (List.getElem?_eq_some_iff.1 hy).1
    first | omega | (cases hx.symm.trans hy; omega)
  ·
   have hc11 := of_decide_eq_false hc11
   refine Lz ?_
   refine Lz ?_
   refine Lz ?_
   refine Lz ?_
   refine Lz ?_
   refine Lz ?_
   refine Ly y_pick_false ?_
   refine WL.done ?_
   refine Kcond (ht := fun h => by cases h) (hf := fun _ => ?_)
   refine WK.exit ?_
   repeat (first | refine XQ.then_ ?_ | refine XQ.block (by rfl) ?_)
   refine XQ.here ?_
   refine Kgoto JB0 k ⟨hk, hk1, fun y hy => ?_⟩
   have hkl := (List.getElem?_eq_some_iff.1 hy).1
   first | omega | (cases hx.symm.trans hy; omega)
set_option maxRecDepth 20000 in
set_option maxHeartbeats 2000000 in
theorem refJoin_spec (p : Bool) (ad : Option Addr) (len cap : Nat) (l : List HomeM) (hlen : len ≤ 10000) (sh into : Int) :
  Triple Tryz.prog 22 #[.slice ad len cap, .int .i64 sh, .int .i64 into] [sl p 83 2 ad len cap (homesC l)] (Option Addr × Nat) (fun _ => True) (fun x => .slice x.1 (refJoinM l sh into).length x.2) (fun x => [sl true 83 2 x.1 (refJoinM l sh into).length x.2 (homesC (refJoinM l sh into)), sl p 83 2 ad len cap (homesC l)]) := by
 refine Triple.of_body (args := [.slice ad len cap, .int .i64 sh, .int .i64 into]) Tryz.func22 rfl Tryz.ntmps22 (by simp) (fun g F => ?_)
 dsimp only [numb, List.cons_append, List.nil_append]
 refine WK.know (fun w s => Sat.slLen (s.sel1 (A := sl p 83 2 ad len cap (homesC l)) (by repeat (first | exact .here | apply Sel.there)))) (fun hkn => ?_)
 obtain ⟨n1, -⟩ := hkn
 rw [homesC_len] at n1
 replace n1 : l.length = _ := Nat.eq_of_mul_eq_mul_right (by omega) n1
 refine WK.seq ?_
 refine WK.region ?_
 refine Ly y_assign ?_
 refine WL.done ?_
 refine WK.seq ?_
 refine WK.region ?_
 refine Ly y_assign ?_
 refine WL.done ?_
 refine WK.seq ?_
 refine WK.region ?_
 refine Ly y_assign ?_
 refine WL.done ?_
 refine WK.seq ?_
 refine WK.seq ?_
 refine WK.region ?_
 refine Ly y_assign ?_
 refine WL.done ?_
 refine WK.block ?_
 refine WK.sat (fun w s => Sat.nilSl s true 3 1) ?_
 refine WK.sat (fun w s => Sat.nilSl s true 3 1) ?_
 refine Kloop (ι := Nat × (Option Addr × Nat) × (Option Addr × Nat)) (fun x => x.1 ≤ len) (fun x => [(0, .slice ad len cap), (1, .int .i64 sh), (2, .int .i64 into), (7, .slice x.2.1.1 x.1 x.2.1.2), (8, .slice x.2.2.1 x.1 x.2.2.2), (9, .int .i64 (x.1 : Int))]) (fun x => sl true 3 1 x.2.1.1 x.1 x.2.1.2 (((l.take x.1).map (·.frm)).map (Value.int .i64)) :: sl true 3 1 x.2.2.1 x.1 x.2.2.2 (((l.take x.1).map (joinS sh into)).map (Value.int .i64)) :: sl p 83 2 ad len cap (homesC l) :: F) (fun x => len - x.1) ((0, (none, 0), (none, 0))) (Nat.zero_le _) (round := ?_)
 rintro ⟨i, ⟨ad7, cap7⟩, ⟨ad8, cap8⟩⟩ hi N hN
 dsimp only at hi ⊢
 refine WK.seq ?_
 refine WK.seq ?_
 refine WK.region ?_
 refine Ly y_move ?_
 refine Ly y_move ?_
 refine Ly (y_len (hu := by exact Tryz.runUnderlying23)) ?_
 refine Ly y_lss ?_
 refine WL.done ?_
 refine Kcond (ht := fun hc13 => ?_) (hf := fun hc13 => ?_)
 ·
  have hc13 := of_decide_eq_true hc13
  obtain ⟨h, hx⟩ : ∃ x, l[i]? = some x := ⟨_, List.getElem?_eq_getElem (by omega)⟩
  refine WK.skip ?_
  refine WK.seq ?_
  refine WK.block ?_
  refine WK.seq ?_
  refine WK.region ?_
  refine Ly y_move ?_
  refine Ly y_move ?_
  refine Ly y_move ?_
  refine Ly (y_indexAddrS (hu := by exact Tryz.runUnderlying23) (hz := by exact Tryz.sizeOf83) (j := i) (hi := by first | rfl | omega) (hj' := by omega) (hj := by omega)) ?_
  refine Ly (y_fieldAddrS (hu := by exact Tryz.runUnderlying83) (hs := by exact Tryz.sizeOf3)) ?_
  refine Ly (y_loadS (ha := by exact Tryz.isAgg3) (hv := by exact homesC_f hx (by rfl))) ?_
  refine Le (e_mkSlice1 (hu := by exact Tryz.runUnderlying22) (hk := by exact Tryz.sizeOf3) (hz := by exact Tryz.zeroValue3) (hk0 := by rfl) (hb := by decide) (h1 := by rfl)) ?_
  rintro b22 -
  try dsimp only
  refine Le (e_append (et := elem22) (htx := by exact Tryz.underlying22) (hb := by omega) (hm := by omega)) ?_
  rintro ⟨ad23, cap23⟩ -
  try dsimp only
  refine Ly y_assign ?_
  refine WL.done ?_
  refine WK.seq ?_
  refine WK.region ?_
  refine Ly y_move ?_
  refine Ly y_move ?_
  refine Ly (y_indexAddrS (hu := by exact Tryz.runUnderlying23) (hz := by exact Tryz.sizeOf83) (j := i) (hi := by first | rfl | omega) (hj' := by omega) (hj := by omega)) ?_
  refine Ly (y_fieldAddrS (hu := by exact Tryz.runUnderlying83) (hs := by exact Tryz.sizeOf3)) ?_
  refine Ly (y_loadS (ha := by exact Tryz.isAgg3) (hv := by exact homesC_s hx (by rfl))) ?_
  refine Ly y_move ?_
  refine Ly y_eql ?_
  refine WL.done ?_
  refine Kcond (ht := fun hc30 => ?_) (hf := fun hc30 => ?_)
  ·
   have hc30 := of_decide_eq_true hc30
   refine WK.region ?_
   refine Ly y_move ?_
   refine Ly y_move ?_
   refine Le (e_mkSlice1 (hu := by exact Tryz.runUnderlying22) (hk := by exact Tryz.sizeOf3) (hz := by exact Tryz.zeroValue3) (hk0 := by rfl) (hb := by decide) (h1 := by rfl)) ?_
   rintro b33 -
   try dsimp only
   refine Le (e_append (et := elem22) (htx := by exact Tryz.underlying22) (hb := by omega) (hm := by omega)) ?_
   rintro ⟨ad34, cap34⟩ -
   try dsimp only
   refine Ly y_assign ?_
   refine WL.done ?_
   refine WK.endBlock ?_
   refine WK.region ?_
   refine Ly y_move ?_
   refine Ly y_add ?_
   refine Ly y_assign ?_
   refine WL.done ?_
   apply WK.next hN (i + 1, (ad23, cap23), (ad34, cap34)) (by dsimp only; omega) (by dsimp only; omega) (by repeat (first | exact KK.nil | refine KK.cons (by first | rfl | (simp; done)) ?_))
   dsimp only
   rw [List.take_add_one, hx, Option.toList_some]
   simp only [List.map_append, List.map_cons, List.map_nil]
   rw [joinS, if_pos hc30]
   exact (by repeat (first | exact SelL.nil | exact SelL.self | apply SelL.cons | exact Sel.here | apply Sel.there | apply SelL.skip))
  ·
   have hc30 := of_decide_eq_false hc30
   refine WK.region ?_
   refine Ly y_move ?_
   refine Ly y_move ?_
   refine Ly y_move ?_
   refine Ly (y_indexAddrS (hu := by exact Tryz.runUnderlying23) (hz := by exact Tryz.sizeOf83) (j := i) (hi := by first | rfl | omega) (hj' := by omega) (hj := by omega)) ?_
   refine Ly (y_fieldAddrS (hu := by exact Tryz.runUnderlying83) (hs := by exact Tryz.sizeOf3)) ?_
   refine Ly (y_loadS (ha := by exact Tryz.isAgg3) (hv := by exact homesC_s hx (by rfl))) ?_
   refine Le (e_mkSlice1 (hu := by exact Tryz.runUnderlying22) (hk := by exact Tryz.sizeOf3) (hz := by exact Tryz.zeroValue3) (hk0 := by rfl) (hb := by decide) (h1 := by rfl)) ?_
   rintro b41 -
   try dsimp only
   refine Le (e_append (et := elem22) (htx := by exact Tryz.underlying22) (hb := by omega) (hm := by omega)) ?_
   rintro ⟨ad42, cap42⟩ -
   try dsimp only
   refine Ly y_assign ?_
   refine WL.done ?_
   refine WK.endBlock ?_
   refine WK.region ?_
   refine Ly y_move ?_
   refine Ly y_add ?_
   refine Ly y_assign ?_
   refine WL.done ?_
   apply WK.next hN (i + 1, (ad23, cap23), (ad42, cap42)) (by dsimp only; omega) (by dsimp only; omega) (by repeat (first | exact KK.nil | refine KK.cons (by first | rfl | (simp; done)) ?_))
   dsimp only
   rw [List.take_add_one, hx, Option.toList_some]
   simp only [List.map_append, List.map_cons, List.map_nil]
   rw [joinS, if_neg hc30]
   exact (by repeat (first | exact SelL.nil | exact SelL.self | apply SelL.cons | exact Sel.here | apply Sel.there | apply SelL.skip))
 ·
  have hc13 := of_decide_eq_false hc13
  obtain rfl : i = len := by omega
  rw [List.take_of_length_le (by omega)]
  refine WK.exit ?_
  repeat (first | refine XQ.then_ ?_ | refine XQ.block (by rfl) ?_)
  refine XQ.here ?_
  refine WK.seq ?_
  refine WK.region ?_
  refine Ly y_move ?_
  refine Ly y_move ?_
  refine Le (e_call (by exact Tryz.call33) (t := normal_spec true true ad7 ad8 i cap7 cap8 _ _ (by omega))) ?_
  rintro ⟨ad45, cap45⟩ -
  try dsimp only
  refine Ly y_assign ?_
  refine WL.done ?_
  refine WK.ret ?_
  repeat (first | refine RQ.block ?_ | refine RQ.then_ ?_)
  refine RQ.body (results1 (by rfl) (by rfl)) (fun w s => ?_)
  exact ⟨(ad45, cap45), trivial, rfl, s.toCs (by repeat (first | exact SelL.nil | exact SelL.self | apply SelL.cons | exact Sel.here | apply Sel.there | apply SelL.skip))⟩
end Go.Proofs.YtkakfmcjiabjjaaGreatDoor
