import Derived.Test.YtkakfmcjiabjjaaGreatDoorLexA
namespace Go.Proofs.YtkakfmcjiabjjaaGreatDoor
set_option linter.unusedVariables false
set_option linter.unusedSimpArgs false
set_option linter.unusedSectionVars false
set_option linter.unnecessarySimpa false
open Go Go.Sep
attribute [local irreducible] row sl mapO held exL allR byt mapI slr
def blanksS : List UInt8 := [32, 9, 10]
def lowerS : List UInt8 := [97, 98, 99, 100, 101, 102, 103, 104, 105, 106, 107, 108, 109, 110, 111, 112, 113, 114, 115, 116, 117, 118, 119, 120, 121, 122]
def wordS : List UInt8 := [97, 98, 99, 100, 101, 102, 103, 104, 105, 106, 107, 108, 109, 110, 111, 112, 113, 114, 115, 116, 117, 118, 119, 120, 121, 122, 48, 49, 50, 51, 52, 53, 54, 55, 56, 57, 95]
def Low (c : UInt8) : Prop := 97 ≤ c.toNat ∧ c.toNat ≤ 122
set_option maxRecDepth 100000 in
theorem low_word {c : UInt8} (h : Low c) : c ∉ blanksS ∧ c ∈ lowerS ∧ c ∈ wordS := by
  have key : ∀ i : Fin 256, 97 ≤ i.val → i.val ≤ 122 → UInt8.ofNat i.val ∉ blanksS ∧ UInt8.ofNat i.val ∈ lowerS ∧ UInt8.ofNat i.val ∈ wordS := by decide
  have := key ⟨c.toNat, c.toNat_lt⟩ h.1 h.2
  simpa using this
def tokC (nm : List UInt8) : List Value := [.int .i64 0, .string ⟨nm.toArray⟩, .int .i64 0, .int .i64 0]
theorem word128 : ∀ c ∈ wordS, c.toNat < 128 := by decide
theorem drop_word {l : List UInt8} (h : ∀ c ∈ l, Low c) : (l.dropWhile fun c => decide (c ∈ wordS)) = [] := by
  induction l with
  | nil => rfl
  | cons c l ih => rw [List.dropWhile_cons, if_pos (by simpa using (low_word (h c (by simp))).2.2), ih fun x hx => h x (by simp [hx])]
theorem elem232 : ElemT Tryz.prog 232 236 4 40 := ⟨Tryz.underlying232, ⟨Tryz.t236, _, by kernel_rfl, rfl, rfl, rfl, rfl⟩⟩
theorem places236 (w : World) : ∀ {fs : Array Field}, Tryz.prog.underlying 236 = some (.struct fs) → Sem.run Tryz.prog (fs.mapM fun f => Prod.mk f.offset <$> sizeOf f.type) w = .ok #[(0, 1), (1, 1), (2, 1), (3, 1)] w := by
  intro fs h
  rw [Tryz.underlying236] at h
  cases h
  simp
set_option maxRecDepth 20000 in
set_option maxHeartbeats 2000000 in
theorem parts_iter (q : Nat) (c : UInt8) (r : List UInt8) (hlow : ∀ x ∈ c :: r, Low x) (hlen : r.length ≤ 1000) :
  Iter Tryz.prog 178 [.pointer (some ⟨q, 0, none⟩)] [row true q 9 [.string ⟨(c :: r).toArray⟩]] (α := Unit) (fun _ => [.int .i64 0, .agg #[.int .i64 0, .string ⟨(c :: r).toArray⟩, .int .i64 0, .int .i64 0]]) (fun xs => xs = [()]) := by
 refine Iter.of_body (v := .tuple #[]) Tryz.func178 rfl Tryz.ntmps178 (by simp) (fun β I Ix J Jx l g hY b F hI Rr hdone hstop => ?_)
 dsimp only [numb, List.cons_append, List.nil_append]
 have hc := low_word (hlow c (by simp))
 have hcl : 97 ≤ c.toNat ∧ c.toNat ≤ 122 := hlow c (by simp)
 have hdw := drop_word hlow
 have hsz : (⟨(c :: r).toArray⟩ : ByteArray).size = r.length + 1 := by rw [str_size]; rfl
 refine WK.seq ?_
 refine WK.region ?_
 refine Ly y_assign ?_
 refine WL.done ?_
 refine WK.block ?_
 refine Kloop (ι := Bool × β) (fun x => bif x.1 then I [()] x.2 else I [] x.2) (fun x => [(0, .func (.yield l) #[] #[]), (1, .pointer (some ⟨q, 0, none⟩)), (3, .int .i64 (bif x.1 then ((r.length + 1 : Nat) : Int) else 0))]) (fun x => J x.2 :: row true q 9 [.string ⟨(c :: r).toArray⟩] :: F) (fun x => bif x.1 then 0 else 1) ((false, b)) (hI) (round := ?_)
 rintro ⟨d, b⟩ hIp N hN
 refine WK.seq ?_
 refine WK.seq ?_
 rcases d with _ | _
 ·
  dsimp only [cond] at hIp ⊢
  refine WK.region ?_
  refine Ly y_move ?_
  refine Ly (y_load (ha := by exact Tryz.isAgg9)) ?_
  refine Ly (y_lenS (hu := by exact Tryz.runUnderlying9)) ?_
  refine Ly y_lss ?_
  refine WL.done ?_
  refine Kcond (ht := fun hc15 => ?_) (hf := fun hc15 => ?_)
  ·
   have hc15 := of_decide_eq_true hc15
   refine WK.skip ?_
   refine WK.block ?_
   refine WK.seq ?_
   refine WK.region ?_
   refine Ly (y_load (ha := by exact Tryz.isAgg9)) ?_
   refine Ly y_move ?_
   refine Ly (y_sliceStr_lo (hu := by exact Tryz.runUnderlying9) (l := 0) (hl := by omega)) ?_
   rw [List.drop_zero]
   refine Ly y_assign ?_
   refine WL.done ?_
   refine WK.seq ?_
   refine WK.block ?_
   refine WK.seq ?_
   refine WK.region ?_
   refine Ly y_move ?_
   refine Le (e_call (by exact Tryz.call179) (t := in_spec (c :: r) blanksS)) ?_
   rintro _ -
   dsimp only
   rw [decide_eq_false hc.1]
   try dsimp only
   refine Ly y_assign ?_
   refine WL.done ?_
   refine Kcond (ht := fun h => by cases h) (hf := fun _ => ?_)
   refine WK.seq ?_
   refine WK.region ?_
   refine Ly y_move ?_
   refine Ly (y_indexStr (hu := by exact Tryz.runUnderlying9) (k := 0) (hc := by rfl)) ?_
   refine Ly y_eql ?_
   refine Ly y_assign ?_
   refine WL.done ?_
   refine Kcond (ht := fun hc26 => ?_) (hf := fun hc26 => ?_)
   ·
    have hc26 := of_decide_eq_true hc26
    omega
   ·
    have hc26 := of_decide_eq_false hc26
    refine WK.skip ?_
    refine WK.endBlock ?_
    refine WK.seq ?_
    refine WK.region ?_
    refine Ly y_move ?_
    refine Ly (y_build (hz := by exact Tryz.zeroValue236) (hu := by exact Tryz.runUnderlying236) (hp := by exact fun w => places236 w Tryz.underlying236) (hne := by first | decide | simp)) ?_
    refine Le (e_alloc (by exact Tryz.zeroValue236)) ?_
    rintro b8 -
    try dsimp only
    refine Le0 (e_store (hk := by exact Tryz.sizeOf236) (h1 := by rfl)) ?_
    rintro _ -
    try dsimp only
    refine WL.done ?_
    refine WK.seq ?_
    refine WK.region ?_
    refine Ly y_assign ?_
    refine WL.done ?_
    refine WK.seq ?_
    refine WK.block ?_
    refine WK.seq ?_
    refine WK.region ?_
    refine Ly y_move ?_
    refine Le (e_call (by exact Tryz.call179) (t := in_spec (c :: r) lowerS)) ?_
    rintro _ -
    dsimp only
    rw [decide_eq_true hc.2.1]
    try dsimp only
    refine Ly y_assign ?_
    refine WL.done ?_
    refine Kcond (ht := fun _ => ?_) (hf := fun h => by cases h)
    refine WK.seq ?_
    refine WK.region ?_
    refine Ly (y_fieldAddr (hu := by exact Tryz.runUnderlying236) (hs := by exact Tryz.sizeOf3)) ?_
    refine Le0 (e_store (hk := by exact Tryz.sizeOf3) (h1 := by rfl)) ?_
    rintro _ -
    try dsimp only
    refine WL.done ?_
    refine WK.region ?_
    refine Ly y_move ?_
    refine Le (e_call (by exact Tryz.call180) (t := span_spec (c :: r) wordS (by simp; omega) (by decide) (by decide) word128)) ?_
    rintro _ -
    rw [hdw, show (((c :: r).length : Nat) : Int) - (([] : List UInt8).length : Nat) = ((r.length + 1 : Nat) : Int) from by simp]
    try dsimp only
    refine Ly y_assign ?_
    refine WL.done ?_
    refine WK.endBlock ?_
    refine WK.seq ?_
    refine WK.region ?_
    refine Ly y_move ?_
    refine Ly y_move ?_
    refine Ly (y_sliceStr_hi (hu := by exact Tryz.runUnderlying9) (h := r.length + 1) (hi := by first | rfl | omega) (hh := by simp)) ?_
    rw [show (c :: r).take (r.length + 1) = c :: r from List.take_of_length_le (by simp)]
    refine Ly (y_fieldAddr (hu := by exact Tryz.runUnderlying236) (hs := by exact Tryz.sizeOf9)) ?_
    refine Le0 (e_store (hk := by exact Tryz.sizeOf9) (h1 := by rfl)) ?_
    rintro _ -
    try dsimp only
    refine WL.done ?_
    refine WK.seq ?_
    refine WK.seq ?_
    refine WK.region ?_
    refine Ly y_move ?_
    refine Ly y_move ?_
    refine Ly (y_loadA (ha := by exact Tryz.isAgg236) (hk := by exact Tryz.sizeOf236)) ?_
    refine Lr (eR_yield hY (pre := []) (x := PUnit.unit) (b := b) (hv := by rfl) (hS := ⟨[], rfl⟩) (hI := hIp)) ?_
    rintro ⟨b73, t73⟩ hz73
    try dsimp only
    refine Ly y_not ?_
    refine WL.done ?_
    refine Kcond (ht := fun hc74 => ?_) (hf := fun hc74 => ?_)
    ·
     obtain rfl : t73 = false := by simpa using hc74
     dsimp only [cond] at hz73 ⊢
     refine WK.ret ?_
     repeat (first | refine RQ.block ?_ | refine RQ.then_ ?_)
     refine RQ.body (results0 (by rfl)) (fun w s => ?_)
     exact hstop _ b73 hz73 w (s.toCs (by repeat (first | exact SelL.nil | exact SelL.self | apply SelL.cons | exact Sel.here | apply Sel.there | apply SelL.skip)))
    ·
     obtain rfl : t73 = true := by simpa using hc74
     dsimp only [cond] at hz73 ⊢
     refine WK.skip ?_
     refine WK.region ?_
     refine Ly y_move ?_
     refine Ly y_move ?_
     refine Ly (y_add (hr := show IntKind.i64.wrap _ = ((r.length + 1 : Nat) : Int) from by rw [Int.zero_add]; exact w64 (by omega) (by omega))) ?_
     refine Ly y_assign ?_
     refine WL.done ?_
     refine WK.endBlock ?_
     exact Knext hN (true, b73) hz73 (by simp)
  ·
   have hc15 := of_decide_eq_false hc15
   rw [hsz] at hc15
   omega
 ·
  dsimp only [cond] at hIp ⊢
  refine WK.region ?_
  refine Ly y_move ?_
  refine Ly (y_load (ha := by exact Tryz.isAgg9)) ?_
  refine Ly (y_lenS (hu := by exact Tryz.runUnderlying9)) ?_
  refine Ly y_lss ?_
  refine WL.done ?_
  refine Kcond (ht := fun hc15 => ?_) (hf := fun hc15 => ?_)
  ·
   have hc15 := of_decide_eq_true hc15
   rw [hsz] at hc15
   omega
  ·
   have hc15 := of_decide_eq_false hc15
   refine WK.exit ?_
   repeat (first | refine XQ.then_ ?_ | refine XQ.block (by rfl) ?_)
   refine XQ.here ?_
   refine WK.fall (results0 (by rfl)) (fun w s => ?_)
   exact hdone _ b rfl hIp w (s.toCs (by repeat (first | exact SelL.nil | exact SelL.self | apply SelL.cons | exact Sel.here | apply Sel.there | apply SelL.skip)))
set_option maxRecDepth 20000 in
set_option maxHeartbeats 1000000 in
theorem parts_spec (cs : List UInt8) :
  Triple Tryz.prog 170 #[.string ⟨cs.toArray⟩] [] (Nat) (fun _ => True) (fun q => .func (.func 178) #[] #[.pointer (some ⟨q, 0, none⟩)]) (fun q => [row true q 9 [.string ⟨cs.toArray⟩]]) := by
 refine Triple.of_body (args := [.string ⟨cs.toArray⟩]) Tryz.func170 rfl Tryz.ntmps170 (by simp) (fun g F => ?_)
 dsimp only [numb, List.cons_append, List.nil_append]
 refine WK.seq ?_
 refine WK.region ?_
 refine Le e_box ?_
 rintro b1 -
 try dsimp only
 refine Ly y_assign ?_
 refine WL.done ?_
 refine WK.seq ?_
 refine WK.region ?_
 refine Ly y_mkFunc ?_
 refine Ly y_assign ?_
 refine WL.done ?_
 refine WK.ret ?_
 repeat (first | refine RQ.block ?_ | refine RQ.then_ ?_)
 refine RQ.body (results1 (by rfl) (by rfl)) (fun w s => ?_)
 exact ⟨b1, trivial, rfl, s⟩
set_option maxRecDepth 20000 in
set_option maxHeartbeats 2000000 in
theorem tokens_spec (c : UInt8) (r : List UInt8) (hlow : ∀ x ∈ c :: r, Low x) (hlen : r.length ≤ 15) :
  Triple Tryz.prog 148 #[.string ⟨(c :: r).toArray⟩] [] (Option Addr × Nat) (fun _ => True) (fun x => .tuple #[.slice x.1 1 x.2, .int .i64 0, .int .i64 0]) (fun x => [sl true 236 4 x.1 1 x.2 (tokC (c :: r))]) := by
 refine Triple.of_body (args := [.string ⟨(c :: r).toArray⟩]) Tryz.func148 rfl Tryz.ntmps148 (by simp) (fun g F => ?_)
 dsimp only [numb, List.cons_append, List.nil_append]
 refine WK.seq ?_
 refine WK.region ?_
 refine Le (e_alloc (by exact Tryz.zeroValue232)) ?_
 rintro b2 -
 try dsimp only
 refine Le (e_alloc (by exact Tryz.zeroValue3)) ?_
 rintro b3 -
 try dsimp only
 refine Le (e_alloc (by exact Tryz.zeroValue28)) ?_
 rintro b4 -
 try dsimp only
 refine WL.done ?_
 refine WK.seq ?_
 refine WK.seq ?_
 refine WK.region ?_
 refine Ly y_move ?_
 refine Ly (y_lenS (hu := by exact Tryz.runUnderlying9)) ?_
 refine Ly y_gtr ?_
 refine WL.done ?_
 refine Kcond (ht := fun hc12 => ?_) (hf := fun hc12 => ?_)
 ·
  have hc12 := of_decide_eq_true hc12
  rw [str_size, List.length_cons] at hc12
  omega
 ·
  have hc12 := of_decide_eq_false hc12
  refine WK.skip ?_
  refine WK.seq ?_
  refine WK.region ?_
  refine Le (e_alloc (by exact Tryz.zeroValue232)) ?_
  rintro b5 -
  try dsimp only
  refine WL.done ?_
  refine WK.seq ?_
  refine WK.seq ?_
  refine WK.sat (fun w s => Sat.nilSl s true 236 4) ?_
  refine WK.region ?_
  refine Ly y_move ?_
  refine Le (e_call (by exact Tryz.call170) (t := parts_spec (c :: r))) ?_
  rintro q14 -
  try dsimp only
  refine WL.done ?_
  refine WK.block ?_
  refine WK.marks0 ?_
  refine WK.rangeFunc rfl (ps := [15, 16]) (by rfl) (by exact Tryz.call178) (parts_iter q14 c r hlow (by omega)) (fun _ => rfl) (by decide) (fun pre (x : Option Addr × Nat × Bool) => pre.length = bif x.2.2 then 1 else 0) (fun x => [row true b2 232 [.slice none 0 0], row true b3 3 [.int .i64 0], row true b4 28 [.int .i64 0], row true b5 232 [.slice x.1 (bif x.2.2 then 1 else 0) x.2.1], sl true 236 4 x.1 (bif x.2.2 then 1 else 0) x.2.1 (bif x.2.2 then tokC (c :: r) else [])]) (fun _ _ _ => False) (fun _ _ => []) ((none, 0, false)) (rfl) (by repeat (first | exact .here | apply Sel.there)) (by repeat (first | exact SelL.nil | exact SelL.self | apply SelL.cons | exact Sel.here | apply Sel.there | apply SelL.skip)) (by repeat (first | exact SelL.nil | exact SelL.self | apply SelL.cons | exact Sel.here | apply Sel.there | apply SelL.skip)) ?_ ?_ ?_
  ·
   intro r0 hds0 L0a L0b F0 pre0 x0 bb0 hS0 hI0 N0 QF0 Q0 hb0 hnext0 hret0 hexit0
   obtain ⟨ys, hys⟩ := hS0
   obtain rfl : pre0 = [] := by
     cases pre0 with
     | nil => rfl
     | cons a l => simp at hys
   obtain ⟨a0, c0, d0⟩ := bb0
   obtain rfl : d0 = false := by
     cases d0 with
     | false => rfl
     | true => simp at hI0
   dsimp only [cond]
   try dsimp only [bindK, List.cons_append, List.nil_append]
   refine WK.seq ?_
   refine WK.region ?_
   refine Ly y_assign ?_
   refine WL.done ?_
   refine WK.region ?_
   refine Le (e_alloc (by exact Tryz.zeroValue236)) ?_
   rintro b7 -
   try dsimp only
   refine Le0 (e_store (hk := by exact Tryz.sizeOf236) (h1 := by rfl)) ?_
   rintro _ -
   try dsimp only
   refine WL.done ?_
   refine WK.begin hb0 (by repeat (first | exact .here | apply Sel.there)) ?_
   refine WK.block ?_
   refine WK.seq ?_
   refine WK.block ?_
   refine WK.seq ?_
   refine WK.region ?_
   refine Ly (y_fieldAddr (hu := by exact Tryz.runUnderlying236) (hs := by exact Tryz.sizeOf9)) ?_
   refine Ly (y_load (ha := by exact Tryz.isAgg9)) ?_
   refine Ly y_strEql ?_
   refine Ly y_assign ?_
   refine WL.done ?_
   refine Kcond (ht := fun hc17 => ?_) (hf := fun hc17 => ?_)
   ·
    have hc17 := of_decide_eq_true hc17
    cases hc17
   ·
    have hc17 := of_decide_eq_false hc17
    refine WK.seq ?_
    refine WK.region ?_
    refine Ly (y_fieldAddr (hu := by exact Tryz.runUnderlying236) (hs := by exact Tryz.sizeOf3)) ?_
    refine Ly (y_load (ha := by exact Tryz.isAgg3)) ?_
    refine Ly y_eql ?_
    refine Ly y_move ?_
    refine WL.split (d := 26) (by rfl) (fun hc26 => ?_) (fun hc26 => ?_)
    ·
     have hc26 := of_decide_eq_true hc26
     refine Lyg (y_fieldAddr (hu := by exact Tryz.runUnderlying236) (hs := by exact Tryz.sizeOf9)) ?_
     refine Lyg (y_load (ha := by exact Tryz.isAgg9)) ?_
     refine Lyg (y_lenS (hu := by exact Tryz.runUnderlying9)) ?_
     refine Lyg y_gtr ?_
     refine Ly y_pick_true ?_
     refine Ly y_assign ?_
     refine WL.done ?_
     refine Kcond (ht := fun hc22 => ?_) (hf := fun hc22 => ?_)
     ·
      have hc22 := of_decide_eq_true hc22
      rw [str_size, List.length_cons] at hc22
      omega
     ·
      have hc22 := of_decide_eq_false hc22
      refine WK.seq ?_
      refine WK.region ?_
      refine Ly (y_fieldAddr (hu := by exact Tryz.runUnderlying236) (hs := by exact Tryz.sizeOf3)) ?_
      refine Ly (y_load (ha := by exact Tryz.isAgg3)) ?_
      refine Ly y_eql ?_
      refine Ly y_assign ?_
      refine WL.done ?_
      refine Kcond (ht := fun hc33 => ?_) (hf := fun hc33 => ?_)
      ·
       have hc33 := of_decide_eq_true hc33
       cases hc33
      ·
       have hc33 := of_decide_eq_false hc33
       refine WK.skip ?_
       refine WK.endBlock ?_
       refine WK.region ?_
       refine Ly (y_load (ha := by exact Tryz.isAgg232)) ?_
       refine Ly (y_loadA (ha := by exact Tryz.isAgg236) (hk := by exact Tryz.sizeOf236)) ?_
       refine Le (e_mkSlice1 (hu := by exact Tryz.runUnderlying232) (hk := by exact Tryz.sizeOf236) (hz := by exact Tryz.zeroValue236) (hk0 := by rfl) (hb := by decide) (h1 := by rfl)) ?_
       rintro b54 -
       try dsimp only
       refine Le (e_append (et := elem232) (htx := by exact Tryz.underlying232) (hb := by omega) (hm := by omega)) ?_
       rintro ⟨ad55, cap55⟩ -
       try dsimp only
       refine Le0 (e_store (hk := by exact Tryz.sizeOf232) (h1 := by rfl)) ?_
       rintro _ -
       try dsimp only
       refine WL.done ?_
       refine WK.endBlock ?_
       exact WK.roundEnd hnext0 (ad55, cap55, true) rfl (by repeat (first | exact SelL.nil | exact SelL.self | apply SelL.cons | exact Sel.here | apply Sel.there | apply SelL.skip))
    ·
     have hc26 := of_decide_eq_false hc26
     exact (hc26 rfl).elim
  ·
   intro r0 hro0 xs0 bb0 hS0 hI0
   subst hS0
   obtain ⟨a0, c0, d0⟩ := bb0
   obtain rfl : d0 = true := by
     cases d0 with
     | true => rfl
     | false => simp at hI0
   dsimp only [cond]
   try dsimp only [List.cons_append, List.nil_append]
   refine WK.endBlockM (by simp [rnd0_ro, *]) ?_
   refine WK.seq ?_
   refine WK.region ?_
   refine Ly (y_load (ha := by exact Tryz.isAgg232)) ?_
   refine Le0 (e_store (hk := by exact Tryz.sizeOf232) (h1 := by rfl)) ?_
   rintro _ -
   try dsimp only
   refine Le0 (e_store (hk := by exact Tryz.sizeOf3) (h1 := by rfl)) ?_
   rintro _ -
   try dsimp only
   refine Le0 (e_store (hk := by exact Tryz.sizeOf28) (h1 := by rfl)) ?_
   rintro _ -
   try dsimp only
   refine WL.done ?_
   refine WK.ret ?_
   repeat (first | refine RQ.block ?_ | refine RQ.then_ ?_)
   refine RQ.bodyM (by repeat (first | exact .here | apply Sel.there)) (resultsV3 (by rfl) (.cell (by rfl) (by exact Tryz.isAgg232) (by repeat (first | exact .here | apply Sel.there)) (by rfl)) (.cell (by rfl) (by exact Tryz.isAgg3) (by repeat (first | exact .here | apply Sel.there)) (by rfl)) (.cell (by rfl) (by exact Tryz.isAgg28) (by repeat (first | exact .here | apply Sel.there)) (by rfl))) (fun w s => ?_)
   exact ⟨(a0, c0), trivial, rfl, s.toCs (by repeat (first | exact SelL.nil | exact SelL.self | apply SelL.cons | exact Sel.here | apply Sel.there | apply SelL.skip))⟩
  ·
   exact fun _ _ _ _ _ _ h => h.elim
end Go.Proofs.YtkakfmcjiabjjaaGreatDoor
