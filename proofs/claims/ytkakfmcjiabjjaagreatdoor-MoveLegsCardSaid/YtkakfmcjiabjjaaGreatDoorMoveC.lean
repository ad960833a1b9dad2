import Derived.Test.YtkakfmcjiabjjaaGreatDoorMoveB
namespace Go.Proofs.YtkakfmcjiabjjaaGreatDoor
set_option linter.unusedVariables false
set_option linter.unusedSimpArgs false
set_option linter.unusedSectionVars false
set_option linter.unnecessarySimpa false
open Go Go.Sep
attribute [local irreducible] row sl mapO held exL allR byt mapI slr
def outL (q : Nat) (o : List HomeM) (x : Option Addr × Nat) : List HProp := [row true q 30 [.slice x.1 o.length x.2], sl true 84 2 x.1 o.length x.2 (homesC o)]
/-- A variable that holds homes. -/
def outR (q : Nat) (o : List HomeM) : HProp := exL (fun _ : Option Addr × Nat => True) (outL q o)
theorem Sat.outShut {g w : World} {Ps : List HProp} {q : Nat} {o : List HomeM} (x : Option Addr × Nat) (s : Sat g w (outL q o x ++ Ps)) : Sat g w (outR q o :: Ps) := by
  unfold outR
  exact Sat.exShut x trivial s
theorem Sat.outOpen {g w : World} {Ps : List HProp} {q : Nat} {o : List HomeM} (s : Sat g w (outR q o :: Ps)) : ∃ x : Option Addr × Nat, True ∧ Sat g w (outL q o x ++ Ps) := by
  unfold outR at s
  exact s.exOpen
theorem Triple.outOpen {P : Program} {f : FuncId} {args : Array Value} {Pre : List HProp} {ι : Type} {φ : ι → Prop} {val : ι → Value} {Post : ι → List HProp} {q : Nat} {o : List HomeM}
    (h : ∀ x : Option Addr × Nat, Triple P f args (outL q o x ++ Pre) ι φ val Post) : Triple P f args (outR q o :: Pre) ι φ val Post := by
  unfold outR
  exact Triple.openEx fun x _ => h x
attribute [irreducible] outR
def addV (q : Nat) : Value := .func (.func 64) #[] #[.pointer (some ⟨q, 0, none⟩)]
/-- A function value that adds parts of a range to the homes in a variable. -/
structure RwF (P : Program) (f : FuncId) (caps : List Value) (X : HProp) (rw_ : List HomeM → Int × Int × Int → List HomeM) : Prop where
  call : ∀ args w, Sem.run P (callFunc f args) w = .ok (.enter f args) w
  grow : ∀ o x, (rw_ o x).length ≤ o.length + 3
  spec : ∀ q o x, o.length ≤ 500000 → Triple P f (.int .i64 x.1 :: .int .i64 x.2.1 :: .int .i64 x.2.2 :: .func (.func 64) #[] #[.pointer (some ⟨q, 0, none⟩)] :: caps).toArray [X, outR q o] Unit (fun _ => True) (fun _ => .tuple #[]) (fun _ => [X, outR q (rw_ o x)])
def changedM (rw_ : List HomeM → Int × Int × Int → List HomeM) (l : List HomeM) : List HomeM := (rangesM l).foldl rw_ []
theorem foldl_grow {rw_ : List HomeM → Int × Int × Int → List HomeM} (h : ∀ o x, (rw_ o x).length ≤ o.length + 3) : ∀ (l : List (Int × Int × Int)) (o : List HomeM), (l.foldl rw_ o).length ≤ o.length + 3 * l.length
  | [], o => by simp
  | x :: l, o => by
    have h1 := h o x
    have h2 := foldl_grow h l (rw_ o x)
    simp only [List.foldl_cons, List.length_cons]
    omega
def splitA (a : Int) (o : List HomeM) (x : Int × Int × Int) : List HomeM := if x.1 < a then normF o (x.1, x.2.2) else o
def splitB (a b s : Int) (o : List HomeM) (x : Int × Int × Int) : List HomeM := if max x.1 a ≤ min x.2.1 b then normF o (max x.1 a, s) else o
def splitC (b : Int) (o : List HomeM) (x : Int × Int × Int) : List HomeM := if b < x.2.1 then normF o (max x.1 (b + 1), x.2.2) else o
def splitRw (a b s : Int) (o : List HomeM) (x : Int × Int × Int) : List HomeM := splitC b (splitB a b s (splitA a o x) x) x
def joinRw (s i : Int) (o : List HomeM) (x : Int × Int × Int) : List HomeM := normF o (x.1, if x.2.2 = s then i else x.2.2)
theorem splitA_len (a : Int) (o : List HomeM) (x : Int × Int × Int) : (splitA a o x).length ≤ o.length + 1 := by
  unfold splitA; split
  · exact normF_len _ _
  · omega
theorem splitB_len (a b s : Int) (o : List HomeM) (x : Int × Int × Int) : (splitB a b s o x).length ≤ o.length + 1 := by
  unfold splitB; split
  · exact normF_len _ _
  · omega
theorem splitC_len (b : Int) (o : List HomeM) (x : Int × Int × Int) : (splitC b o x).length ≤ o.length + 1 := by
  unfold splitC; split
  · exact normF_len _ _
  · omega
theorem splitRw_len (a b s : Int) (o : List HomeM) (x : Int × Int × Int) : (splitRw a b s o x).length ≤ o.length + 3 := by
  have h1 := splitA_len a o x
  have h2 := splitB_len a b s (splitA a o x) x
  have h3 := splitC_len b (splitB a b s (splitA a o x) x) x
  unfold splitRw
  omega
theorem Triple.packed {P : Program} {f : FuncId} {args : Array Value} {A B : HProp} {l : List HProp} {v : Value} (t : Triple P f args (A :: l) Unit (fun _ => True) (fun _ => v) (fun _ => B :: l)) : Triple P f args [pack l, A] Unit (fun _ => True) (fun _ => v) (fun _ => [pack l, B]) := fun g w F s => by
  have s1 : Sat g w ((A :: l) ++ F) := by
    have := Sat.unpack s
    exact this.perm (by simpa using List.perm_middle)
  refine (t g w F s1).mono ?_
  rintro e w' ⟨x, hx, rfl, s'⟩
  refine ⟨(), trivial, rfl, Sat.pack ?_⟩
  exact Sat.perm (l := (B :: l) ++ F) s' (by simpa using (List.perm_middle (a := B) (l₁ := l) (l₂ := F)).symm)
set_option maxRecDepth 20000 in
set_option maxHeartbeats 1000000 in
theorem changed1_spec (q : Nat) (o : List HomeM) (f s : Int) (hlen : o.length ≤ 1000000) :
  Triple Tryz.prog 64 #[.int .i64 f, .int .i64 s, .pointer (some ⟨q, 0, none⟩)] [outR q o] (Unit) (fun _ => True) (fun _ => .tuple #[]) (fun _ => [outR q (normF o (f, s))]) := by
 refine Triple.outOpen ?_
 rintro ⟨ad, cap⟩
 dsimp only [outL]
 refine Triple.of_body (args := [.int .i64 f, .int .i64 s, .pointer (some ⟨q, 0, none⟩)]) Tryz.func64 rfl Tryz.ntmps64 (by simp) (fun g F => ?_)
 dsimp only [numb, List.cons_append, List.nil_append]
 refine WK.seq ?_
 refine WK.region ?_
 refine Ly (y_load (ha := by exact Tryz.isAgg30)) ?_
 refine Ly (y_len (hu := by exact Tryz.runUnderlying30)) ?_
 refine Ly y_eql ?_
 refine Ly y_move ?_
 refine WL.split (d := 8) (by rfl) (fun hc8 => ?_) (fun hc8 => ?_)
 ·
  have hc8 := of_decide_eq_true hc8
  refine Lz ?_
  refine Lz ?_
  refine Lz ?_
  refine Lz ?_
  refine Lz ?_
  refine Lz ?_
  refine Lz ?_
  refine Lz ?_
  refine Lz ?_
  refine Ly y_pick_true ?_
  refine WL.done ?_
  refine Kcond (ht := fun _ => ?_) (hf := fun h => by cases h)
  refine WK.region ?_
  refine Ly (y_load (ha := by exact Tryz.isAgg30)) ?_
  refine Ly y_move ?_
  refine Ly y_move ?_
  refine Ly (y_build (hz := by exact Tryz.zeroValue84) (hu := by exact Tryz.runUnderlying84) (hp := by exact fun w => places84 w Tryz.underlying84) (hne := by first | decide | simp)) ?_
  refine Le (e_mkSlice1 (hu := by exact Tryz.runUnderlying30) (hk := by exact Tryz.sizeOf84) (hz := by exact Tryz.zeroValue84) (hk0 := by rfl) (hb := by decide) (h1 := by rfl)) ?_
  rintro b23 -
  try dsimp only
  refine Le (e_append (et := elem30) (htx := by exact Tryz.underlying30) (hb := by omega) (hm := by omega)) ?_
  rintro ⟨ad24, cap24⟩ -
  try dsimp only
  refine Le0 (e_store (hk := by exact Tryz.sizeOf30) (h1 := by rfl)) ?_
  rintro _ -
  try dsimp only
  refine WL.done ?_
  refine WK.fall (results0 (by rfl)) (fun w s => ?_)
  refine ⟨(), trivial, rfl, ?_⟩
  rw [normF_new (.inl (by omega))]
  refine Sat.outShut (ad24, cap24) ?_
  dsimp only [outL, List.cons_append, List.nil_append]
  rw [homesC_app, List.length_append]
  exact s.toCs (by repeat (first | exact SelL.nil | exact SelL.self | apply SelL.cons | exact Sel.here | apply Sel.there | apply SelL.skip))
 ·
  have hc8 := of_decide_eq_false hc8
  obtain ⟨z, hz⟩ : ∃ x, o[o.length - 1]? = some x := ⟨_, List.getElem?_eq_getElem (by omega)⟩
  refine Lyg (y_load (ha := by exact Tryz.isAgg30)) ?_
  refine Lyg (y_load (ha := by exact Tryz.isAgg30)) ?_
  refine Lyg (y_len (hu := by exact Tryz.runUnderlying30)) ?_
  refine Lyg y_sub ?_
  refine Lyg (y_indexAddrS (hu := by exact Tryz.runUnderlying30) (hz := by exact Tryz.sizeOf84) (j := o.length - 1) (hi := by first | rfl | omega) (hj' := by omega) (hj := by omega)) ?_
  refine Lyg (y_fieldAddrS (hu := by exact Tryz.runUnderlying84) (hs := by exact Tryz.sizeOf3)) ?_
  refine Lyg (y_loadS (ha := by exact Tryz.isAgg3) (hv := by exact homesC_s hz (by rfl))) ?_
  refine Lyg y_move ?_
  refine Lyg y_neq ?_
  refine Ly y_pick_false ?_
  refine WL.done ?_
  refine Kcond (ht := fun hc18 => ?_) (hf := fun hc18 => ?_)
  ·
   have hc18 := of_decide_eq_true hc18
   refine WK.region ?_
   refine Ly (y_load (ha := by exact Tryz.isAgg30)) ?_
   refine Ly y_move ?_
   refine Ly y_move ?_
   refine Ly (y_build (hz := by exact Tryz.zeroValue84) (hu := by exact Tryz.runUnderlying84) (hp := by exact fun w => places84 w Tryz.underlying84) (hne := by first | decide | simp)) ?_
   refine Le (e_mkSlice1 (hu := by exact Tryz.runUnderlying30) (hk := by exact Tryz.sizeOf84) (hz := by exact Tryz.zeroValue84) (hk0 := by rfl) (hb := by decide) (h1 := by rfl)) ?_
   rintro b23 -
   try dsimp only
   refine Le (e_append (et := elem30) (htx := by exact Tryz.underlying30) (hb := by omega) (hm := by omega)) ?_
   rintro ⟨ad24, cap24⟩ -
   try dsimp only
   refine Le0 (e_store (hk := by exact Tryz.sizeOf30) (h1 := by rfl)) ?_
   rintro _ -
   try dsimp only
   refine WL.done ?_
   refine WK.fall (results0 (by rfl)) (fun w s => ?_)
   refine ⟨(), trivial, rfl, ?_⟩
   rw [normF_new (.inr ⟨z, hz, hc18⟩)]
   refine Sat.outShut (ad24, cap24) ?_
   dsimp only [outL, List.cons_append, List.nil_append]
   rw [homesC_app, List.length_append]
   exact s.toCs (by repeat (first | exact SelL.nil | exact SelL.self | apply SelL.cons | exact Sel.here | apply Sel.there | apply SelL.skip))
  ·
   have hc18 := of_decide_eq_false hc18
   refine WK.skip ?_
   refine WK.fall (results0 (by rfl)) (fun w s => ?_)
   refine ⟨(), trivial, rfl, ?_⟩
   rw [normF_same hz (by omega)]
   refine Sat.outShut (ad, cap) ?_
   dsimp only [outL, List.cons_append, List.nil_append]
   exact s.toCs (by repeat (first | exact SelL.nil | exact SelL.self | apply SelL.cons | exact Sel.here | apply Sel.there | apply SelL.skip))
set_option maxRecDepth 20000 in
set_option maxHeartbeats 2000000 in
theorem changed_spec (f : FuncId) (caps : List Value) (X : HProp) (rw_ : List HomeM → Int × Int × Int → List HomeM) (hr : RwF Tryz.prog f caps X rw_) (p : Bool) (ad : Option Addr) (len cap : Nat) (l : List HomeM) (hlen : len ≤ 100000) (hb : ∀ h ∈ l, 1 ≤ h.frm ∧ h.frm ≤ 1073741824) :
  Triple Tryz.prog 40 #[.slice ad len cap, .func (.func f) #[] caps.toArray] [X, sl p 84 2 ad len cap (homesC l)] (Option Addr × Nat) (fun _ => True) (fun x => .slice x.1 (changedM rw_ l).length x.2) (fun x => [sl true 84 2 x.1 (changedM rw_ l).length x.2 (homesC (changedM rw_ l)), X, sl p 84 2 ad len cap (homesC l)]) := by
 refine Triple.of_body (args := [.slice ad len cap, .func (.func f) #[] caps.toArray]) Tryz.func40 rfl Tryz.ntmps40 (by simp) (fun g F => ?_)
 dsimp only [numb, List.cons_append, List.nil_append]
 refine WK.know (fun w s => Sat.slLen (s.sel1 (A := sl p 84 2 ad len cap (homesC l)) (by repeat (first | exact .here | apply Sel.there)))) (fun hkn => ?_)
 obtain ⟨n1, -⟩ := hkn
 rw [homesC_len] at n1
 replace n1 : l.length = _ := Nat.eq_of_mul_eq_mul_right (by omega) n1
 refine WK.seq ?_
 refine WK.region ?_
 refine Le e_box ?_
 rintro b3 -
 try dsimp only
 refine Ly y_assign ?_
 refine WL.done ?_
 refine WK.seq ?_
 refine WK.region ?_
 refine Le (e_alloc (by exact Tryz.zeroValue30)) ?_
 rintro b5 -
 try dsimp only
 refine WL.done ?_
 refine WK.seq ?_
 refine WK.region ?_
 refine Ly y_mkFunc ?_
 refine Le (e_alloc (by exact Tryz.zeroValue101)) ?_
 rintro b6 -
 try dsimp only
 refine Le0 (e_store (hk := by exact Tryz.sizeOf101) (h1 := by rfl)) ?_
 rintro _ -
 try dsimp only
 refine WL.done ?_
 refine WK.seq ?_
 refine WK.seq ?_
 refine WK.sat (fun w s => Sat.nilSl s true 84 2) ?_
 refine WK.sat (fun w s => Sat.outShut (o := []) (none, 0) (s.sel (As := outL b5 [] (none, 0)) (by dsimp only [outL]; exact (by repeat (first | exact SelL.nil | exact SelL.self | apply SelL.cons | exact Sel.here | apply Sel.there | apply SelL.skip))))) ?_
 refine WK.region ?_
 refine Ly y_move ?_
 refine Le (e_call (by exact Tryz.call36) (t := ranges_spec ad len cap)) ?_
 rintro q11 -
 try dsimp only
 refine WL.done ?_
 refine WK.block ?_
 refine WK.marks0 ?_
 refine WK.rangeFunc rfl (ps := [12, 13]) (by rfl) (by exact Tryz.call61) (ranges_iter q11 p ad len cap l (by omega) hb) (fun _ => rfl) (by decide) (fun pre (o : List HomeM) => o = pre.foldl rw_ [] ∧ o.length ≤ 3 * pre.length) (fun o => [X, outR b5 o, row true b3 102 [.func (.func f) #[] caps.toArray], row true b6 101 [.func (.func 64) #[] #[.pointer (some ⟨b5, 0, none⟩)]]]) (fun _ _ _ => False) (fun _ _ => []) ([]) (⟨rfl, by simp⟩) (by repeat (first | exact .here | apply Sel.there)) (by repeat (first | exact SelL.nil | exact SelL.self | apply SelL.cons | exact Sel.here | apply Sel.there | apply SelL.skip)) (by repeat (first | exact SelL.nil | exact SelL.self | apply SelL.cons | exact Sel.here | apply Sel.there | apply SelL.skip)) ?_ ?_ ?_
 ·
  intro r0 hds0 L0a L0b F0 pre0 x0 bb0 hS0 hI0 N0 QF0 Q0 hb0 hnext0 hret0 hexit0
  obtain ⟨o, ho⟩ : ∃ o, bb0 = o := ⟨_, rfl⟩
  rw [ho] at hI0 ⊢
  obtain ⟨hoe, hol⟩ := hI0
  obtain ⟨ys, hys⟩ := hS0
  have hpl := congrArg List.length hys
  rw [rangesM_len] at hpl
  simp only [List.length_append, List.length_cons] at hpl
  try dsimp only [bindK, List.cons_append, List.nil_append]
  refine WK.seq ?_
  refine WK.region ?_
  refine Ly y_assign ?_
  refine WL.done ?_
  refine WK.region ?_
  refine Le (e_alloc (by exact Tryz.zeroValue38)) ?_
  rintro b8 -
  try dsimp only
  refine Le0 (e_store (hk := by exact Tryz.sizeOf38) (h1 := by rfl)) ?_
  rintro _ -
  try dsimp only
  refine WL.done ?_
  refine WK.begin hb0 (by repeat (first | exact .here | apply Sel.there)) ?_
  refine WK.block ?_
  refine WK.region ?_
  refine Ly (y_load (ha := by exact Tryz.isAgg102)) ?_
  refine Ly y_move ?_
  refine Ly (y_indexAddrA (hu := by exact Tryz.runUnderlying38) (hs := by exact Tryz.sizeOf3) (k := 0) (hi := by first | rfl | omega) (hl := by first | decide | omega)) ?_
  refine Ly (y_load (ha := by exact Tryz.isAgg3)) ?_
  refine Ly (y_indexAddrA (hu := by exact Tryz.runUnderlying38) (hs := by exact Tryz.sizeOf3) (k := 1) (hi := by first | rfl | omega) (hl := by first | decide | omega)) ?_
  refine Ly (y_load (ha := by exact Tryz.isAgg3)) ?_
  refine Ly (y_load (ha := by exact Tryz.isAgg101)) ?_
  refine Le (e_callV (f := f) (hc := hr.call) (he := by rfl) (t := hr.spec b5 o x0 (by omega))) ?_
  rintro _ -
  try dsimp only
  refine WL.done ?_
  refine WK.endBlock ?_
  refine WK.roundEnd hnext0 (rw_ o x0) ⟨by rw [List.foldl_append, ← hoe]; rfl, ?_⟩ (by repeat (first | exact SelL.nil | exact SelL.self | apply SelL.cons | exact Sel.here | apply Sel.there | apply SelL.skip))
  have hg := hr.grow o x0
  rw [List.length_append]
  simp only [List.length_cons, List.length_nil]
  omega
 ·
  intro r0 hro0 xs0 bb0 hS0 hI0
  obtain ⟨o, ho⟩ : ∃ o, bb0 = o := ⟨_, rfl⟩
  rw [ho] at hI0 ⊢
  obtain ⟨hoe, hol⟩ := hI0
  subst hS0
  rw [show (rangesM l).foldl rw_ [] = changedM rw_ l from rfl] at hoe
  refine WK.openS (fun w s => Sat.outOpen (s.sel1 (A := outR b5 o) (by repeat (first | exact .here | apply Sel.there)))) ?_
  rintro ⟨ad5, cap5⟩ -
  dsimp only [outL, List.cons_append, List.nil_append]
  try dsimp only [List.cons_append, List.nil_append]
  refine WK.endBlockM (by simp [rnd0_ro, *]) ?_
  refine WK.seq ?_
  refine WK.region ?_
  refine Ly (y_load (ha := by exact Tryz.isAgg30)) ?_
  refine Ly y_assign ?_
  refine WL.done ?_
  refine WK.ret ?_
  repeat (first | refine RQ.block ?_ | refine RQ.then_ ?_)
  refine RQ.bodyM (by repeat (first | exact .here | apply Sel.there)) (results1 (by rfl) (by rfl)) (fun w s => ?_)
  refine ⟨(ad5, cap5), trivial, by rw [hoe], ?_⟩
  rw [← hoe]
  exact s.toCs (by repeat (first | exact SelL.nil | exact SelL.self | apply SelL.cons | exact Sel.here | apply Sel.there | apply SelL.skip))
 ·
  exact fun _ _ _ _ _ _ h => h.elim
set_option maxRecDepth 20000 in
set_option maxHeartbeats 2000000 in
theorem split1_spec (q q4 q5 q6 : Nat) (o : List HomeM) (x : Int × Int × Int) (a b sh : Int) (hlen : o.length ≤ 500000) (hb : 1 ≤ b ∧ b ≤ 1073741824) :
  Triple Tryz.prog 41 #[.int .i64 x.1, .int .i64 x.2.1, .int .i64 x.2.2, .func (.func 64) #[] #[.pointer (some ⟨q, 0, none⟩)], .pointer (some ⟨q4, 0, none⟩), .pointer (some ⟨q5, 0, none⟩), .pointer (some ⟨q6, 0, none⟩)] [outR q o, row true q4 3 [.int .i64 a], row true q5 3 [.int .i64 b], row true q6 3 [.int .i64 sh]] (Unit) (fun _ => True) (fun _ => .tuple #[]) (fun _ => [outR q (splitRw a b sh o x), row true q4 3 [.int .i64 a], row true q5 3 [.int .i64 b], row true q6 3 [.int .i64 sh]]) := by
 refine Triple.of_body (args := [.int .i64 x.1, .int .i64 x.2.1, .int .i64 x.2.2, .func (.func 64) #[] #[.pointer (some ⟨q, 0, none⟩)], .pointer (some ⟨q4, 0, none⟩), .pointer (some ⟨q5, 0, none⟩), .pointer (some ⟨q6, 0, none⟩)]) Tryz.func41 rfl Tryz.ntmps41 (by simp) (fun g F => ?_)
 dsimp only [numb, List.cons_append, List.nil_append]
 have hA := splitA_len a o x
 have hB := splitB_len a b sh (splitA a o x) x
 refine WK.seq ?_
 refine WK.seq ?_
 refine WK.region ?_
 refine Ly y_move ?_
 refine Ly (y_load (ha := by exact Tryz.isAgg3)) ?_
 refine Ly y_lss ?_
 refine WL.done ?_
 refine WK.cut (ι := List HomeM) (fun o2 => o2 = splitA a o x) (fun _ => [(0, .int .i64 x.1), (1, .int .i64 x.2.1), (2, .int .i64 x.2.2), (3, .func (.func 64) #[] #[.pointer (some ⟨q, 0, none⟩)]), (4, .pointer (some ⟨q4, 0, none⟩)), (5, .pointer (some ⟨q5, 0, none⟩)), (6, .pointer (some ⟨q6, 0, none⟩))]) (fun o2 => outR q o2 :: row true q4 3 [.int .i64 a] :: row true q5 3 [.int .i64 b] :: row true q6 3 [.int .i64 sh] :: F) ?_ ?_
 ·
  rintro _ rfl
  refine WK.seq ?_
  refine WK.seq ?_
  refine WK.region ?_
  refine Ly y_move ?_
  refine Ly (y_load (ha := by exact Tryz.isAgg3)) ?_
  refine Ly y_max ?_
  refine Ly y_move ?_
  refine Ly (y_load (ha := by exact Tryz.isAgg3)) ?_
  refine Ly y_min ?_
  refine Ly y_leq ?_
  refine WL.done ?_
  refine WK.cut (ι := List HomeM) (fun o2 => o2 = splitB a b sh (splitA a o x) x) (fun _ => [(0, .int .i64 x.1), (1, .int .i64 x.2.1), (2, .int .i64 x.2.2), (3, .func (.func 64) #[] #[.pointer (some ⟨q, 0, none⟩)]), (4, .pointer (some ⟨q4, 0, none⟩)), (5, .pointer (some ⟨q5, 0, none⟩)), (6, .pointer (some ⟨q6, 0, none⟩))]) (fun o2 => outR q o2 :: row true q4 3 [.int .i64 a] :: row true q5 3 [.int .i64 b] :: row true q6 3 [.int .i64 sh] :: F) ?_ ?_
  ·
   rintro _ rfl
   refine WK.seq ?_
   refine WK.region ?_
   refine Ly y_move ?_
   refine Ly (y_load (ha := by exact Tryz.isAgg3)) ?_
   refine Ly y_gtr ?_
   refine WL.done ?_
   refine Kcond (ht := fun hc33 => ?_) (hf := fun hc33 => ?_)
   ·
    have hc33 := of_decide_eq_true hc33
    refine WK.region ?_
    refine Ly y_move ?_
    refine Ly y_move ?_
    refine Ly (y_load (ha := by exact Tryz.isAgg3)) ?_
    refine Ly y_add ?_
    refine Ly y_max ?_
    refine Ly y_move ?_
    refine Le (e_callV (f := 64) (hc := by exact Tryz.call64) (he := by rfl) (t := changed1_spec q (splitB a b sh (splitA a o x) x) (max x.1 (b + 1)) x.2.2 (by omega))) ?_
    rintro _ -
    try dsimp only
    refine WL.done ?_
    refine WK.fall (results0 (by rfl)) (fun w s => ?_)
    refine ⟨(), trivial, rfl, ?_⟩
    rw [splitRw, splitC, if_pos hc33]
    exact s.toCs (by repeat (first | exact SelL.nil | exact SelL.self | apply SelL.cons | exact Sel.here | apply Sel.there | apply SelL.skip))
   ·
    have hc33 := of_decide_eq_false hc33
    refine WK.skip ?_
    refine WK.fall (results0 (by rfl)) (fun w s => ?_)
    refine ⟨(), trivial, rfl, ?_⟩
    rw [splitRw, splitC, if_neg hc33]
    exact s.toCs (by repeat (first | exact SelL.nil | exact SelL.self | apply SelL.cons | exact Sel.here | apply Sel.there | apply SelL.skip))
  ·
   intro J24
   refine Kcond (ht := fun hc24 => ?_) (hf := fun hc24 => ?_)
   ·
    have hc24 := of_decide_eq_true hc24
    refine WK.region ?_
    refine Ly y_move ?_
    refine Ly y_move ?_
    refine Ly (y_load (ha := by exact Tryz.isAgg3)) ?_
    refine Ly y_max ?_
    refine Ly (y_load (ha := by exact Tryz.isAgg3)) ?_
    refine Le (e_callV (f := 64) (hc := by exact Tryz.call64) (he := by rfl) (t := changed1_spec q (splitA a o x) (max x.1 a) sh (by omega))) ?_
    rintro _ -
    try dsimp only
    refine WL.done ?_
    refine Kgoto J24 _ ?_
    unfold splitB
    exact (if_pos hc24).symm
   ·
    have hc24 := of_decide_eq_false hc24
    refine WK.skip ?_
    refine Kgoto J24 _ ?_
    unfold splitB
    exact (if_neg hc24).symm
 ·
  intro J13
  refine Kcond (ht := fun hc13 => ?_) (hf := fun hc13 => ?_)
  ·
   have hc13 := of_decide_eq_true hc13
   refine WK.region ?_
   refine Ly y_move ?_
   refine Ly y_move ?_
   refine Ly y_move ?_
   refine Le (e_callV (f := 64) (hc := by exact Tryz.call64) (he := by rfl) (t := changed1_spec q o x.1 x.2.2 (by omega))) ?_
   rintro _ -
   try dsimp only
   refine WL.done ?_
   refine Kgoto J13 _ ?_
   unfold splitA
   exact (if_pos hc13).symm
  ·
   have hc13 := of_decide_eq_false hc13
   refine WK.skip ?_
   refine Kgoto J13 _ ?_
   unfold splitA
   exact (if_neg hc13).symm
set_option maxRecDepth 20000 in
set_option maxHeartbeats 1000000 in
theorem join1_spec (q q4 q5 : Nat) (o : List HomeM) (x : Int × Int × Int) (sh into : Int) (hlen : o.length ≤ 500000) :
  Triple Tryz.prog 42 #[.int .i64 x.1, .int .i64 x.2.1, .int .i64 x.2.2, .func (.func 64) #[] #[.pointer (some ⟨q, 0, none⟩)], .pointer (some ⟨q4, 0, none⟩), .pointer (some ⟨q5, 0, none⟩)] [outR q o, row true q4 3 [.int .i64 sh], row true q5 3 [.int .i64 into]] (Unit) (fun _ => True) (fun _ => .tuple #[]) (fun _ => [outR q (joinRw sh into o x), row true q4 3 [.int .i64 sh], row true q5 3 [.int .i64 into]]) := by
 refine Triple.of_body (args := [.int .i64 x.1, .int .i64 x.2.1, .int .i64 x.2.2, .func (.func 64) #[] #[.pointer (some ⟨q, 0, none⟩)], .pointer (some ⟨q4, 0, none⟩), .pointer (some ⟨q5, 0, none⟩)]) Tryz.func42 rfl Tryz.ntmps42 (by simp) (fun g F => ?_)
 dsimp only [numb, List.cons_append, List.nil_append]
 refine WK.seq ?_
 refine WK.seq ?_
 refine WK.region ?_
 refine Ly y_move ?_
 refine Ly (y_load (ha := by exact Tryz.isAgg3)) ?_
 refine Ly y_eql ?_
 refine WL.done ?_
 refine Kcond (ht := fun hc12 => ?_) (hf := fun hc12 => ?_)
 ·
  have hc12 := of_decide_eq_true hc12
  refine WK.region ?_
  refine Ly (y_load (ha := by exact Tryz.isAgg3)) ?_
  refine Ly y_assign ?_
  refine WL.done ?_
  refine WK.region ?_
  refine Ly y_move ?_
  refine Ly y_move ?_
  refine Ly y_move ?_
  refine Le (e_callV (f := 64) (hc := by exact Tryz.call64) (he := by rfl) (t := changed1_spec q o x.1 into (by omega))) ?_
  rintro _ -
  try dsimp only
  refine WL.done ?_
  refine WK.fall (results0 (by rfl)) (fun w s => ?_)
  refine ⟨(), trivial, rfl, ?_⟩
  rw [joinRw, if_pos hc12]
  exact s.toCs (by repeat (first | exact SelL.nil | exact SelL.self | apply SelL.cons | exact Sel.here | apply Sel.there | apply SelL.skip))
 ·
  have hc12 := of_decide_eq_false hc12
  refine WK.skip ?_
  refine WK.region ?_
  refine Ly y_move ?_
  refine Ly y_move ?_
  refine Ly y_move ?_
  refine Le (e_callV (f := 64) (hc := by exact Tryz.call64) (he := by rfl) (t := changed1_spec q o x.1 x.2.2 (by omega))) ?_
  rintro _ -
  try dsimp only
  refine WL.done ?_
  refine WK.fall (results0 (by rfl)) (fun w s => ?_)
  refine ⟨(), trivial, rfl, ?_⟩
  rw [joinRw, if_neg hc12]
  exact s.toCs (by repeat (first | exact SelL.nil | exact SelL.self | apply SelL.cons | exact Sel.here | apply Sel.there | apply SelL.skip))
theorem split_rw (q4 q5 q6 : Nat) (a b sh : Int) (hb : 1 ≤ b ∧ b ≤ 1073741824) : RwF Tryz.prog 41 [.pointer (some ⟨q4, 0, none⟩), .pointer (some ⟨q5, 0, none⟩), .pointer (some ⟨q6, 0, none⟩)] (pack [row true q4 3 [.int .i64 a], row true q5 3 [.int .i64 b], row true q6 3 [.int .i64 sh]]) (splitRw a b sh) :=
  ⟨Tryz.call41, splitRw_len a b sh, fun q o x ho => Triple.packed (split1_spec q q4 q5 q6 o x a b sh ho hb)⟩
theorem join_rw (q4 q5 : Nat) (sh into : Int) : RwF Tryz.prog 42 [.pointer (some ⟨q4, 0, none⟩), .pointer (some ⟨q5, 0, none⟩)] (pack [row true q4 3 [.int .i64 sh], row true q5 3 [.int .i64 into]]) (joinRw sh into) :=
  ⟨Tryz.call42, fun o x => by have := normF_len o (x.1, if x.2.2 = sh then into else x.2.2); unfold joinRw; omega, fun q o x ho => Triple.packed (join1_spec q q4 q5 o x sh into ho)⟩
end Go.Proofs.YtkakfmcjiabjjaaGreatDoor
