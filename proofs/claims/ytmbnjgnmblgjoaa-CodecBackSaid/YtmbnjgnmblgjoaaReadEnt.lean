/- codec's reader: an entry. Printed by wip/tools/gen_readent.py. -/
import Derived.Test.YtmbnjgnmblgjoaaReadDoc
import Derived.Test.YtmbnjgnmblgjoaaWTab
namespace Go.Proofs.Ytmbnjgnmblgjoaa.Man
open Go.RowKit Go.Proofs.YtmbnjgnmblgjoaaW.PrintWords Go.Proofs.YtmbnjgnmblgjoaaW.PrintLast Go.Proofs.YtmbnjgnmblgjoaaW.PrintMore
set_option linter.unusedVariables false
set_option linter.unusedSimpArgs false
set_option maxRecDepth 100000

/-- A call of a Go function in a region, by its contract; it may panic. -/
theorem goesP_ {P : Program} {ops : Array Oper} {Q : Exit → Act → World → Prop} {oi : Oper} {N : Option Tmp} {a : Act} {w : World} {K : Act → World → Prop} {f : FuncId} {fn : Func} {ags : Array Operand} {ts : Array TypeId} (hf : P.funcs[f]? = some fn) (hname : (fn.name == "runtime.NumGoroutine") = false) (hb : fn.body.isSome = true) (args : Array Value)
    (hw : Region.wanted oi (yielded ops a.tmps) = true) (hN : oi.dst = N) (hop : oi.op = .call { callee := .value (.func f), args := ags, argTypes := ts }) (hargs : ags.map a.eval = args)
    (h : Calls P f args w fun e w' => (∃ v, e = .returned v ∧ K (a.put N v) w') ∨ ∃ ch, e = .panicked ch ∧ Q (.panic ch) a w') : if Region.wanted oi (yielded ops a.tmps) = true then Oper.wp P oi a w K Q else K (a.put N undef) w := by
  have he := enters_ hf hname hb args w
  have hrun : (execOp a.eval oi).run P w = .ok (.enter f args) w := by
    unfold execOp
    simp [hop, resolve, Deferred.ofValue, invoke, Act.eval, hargs, he]
  rw [if_pos hw]
  subst hN
  unfold Oper.wp
  rw [hrun, Oper.upon_enter]
  refine h.mono fun e w'' hh => ?_
  rcases hh with ⟨v, rfl, hk⟩ | ⟨ch, rfl, hk⟩
  · exact hk
  · exact hk

/-- An entry's block, its slice any value. -/
def EntC (w : World) (E : Nat) (a0 a1 a2 a3 a4 a5 a6 a7 : Int) (v : Value) (a9 : Int) : Prop := w.heap[E]? = some (.cells #[.int .i64 a0, .int .i64 a1, .int .i64 a2, .int .i64 a3, .int .i64 a4, .int .i64 a5, .int .i64 a6, .int .i64 a7, v, .int .i64 a9] 26 (0, 0))
/-- What a reading of an entry stands at: the place, the reader's box, the entry's block. -/
structure EnS (w W : World) (P : Nat) (A : Option Addr) (c n q : Nat) (a0 a1 a2 a3 a4 a5 a6 a7 : Int) (v : Value) (a9 : Int) : Prop where
  spot : SpotAt W P A c n q
  ptr : PtrAt W w.heap.size P
  ent : EntC W (w.heap.size + 1) a0 a1 a2 a3 a4 a5 a6 a7 v a9
  grown : w.grownBy W (some P)
section
variable {w W W' : World} {P c n q q' : Nat} {A : Option Addr} {a0 a1 a2 a3 a4 a5 a6 a7 a9 : Int} {v : Value}
theorem EnS.size (h : EnS w W P A c n q a0 a1 a2 a3 a4 a5 a6 a7 v a9) : w.heap.size + 2 ≤ W.heap.size := (Array.getElem?_eq_some_iff.1 h.ent).1
theorem EnS.num (h : EnS w W P A c n q a0 a1 a2 a3 a4 a5 a6 a7 v a9) (hP : P < w.heap.size) (hk : SpotAt W' P A c n q') (hg : W.grownBy W' (some P)) : EnS w W' P A c n q' a0 a1 a2 a3 a4 a5 a6 a7 v a9 :=
  ⟨hk, h.ptr.grown hg hP, (hg.block _ (Array.getElem?_eq_some_iff.1 h.ent).1 (by intro e; have e2 := Option.some.inj e; omega)).trans h.ent, h.grown.trans hg⟩
theorem EnS.below (h : EnS w W P A c n q a0 a1 a2 a3 a4 a5 a6 a7 v a9) (hP : P < w.heap.size) (hb : Below W.heap.size W W') : EnS w W' P A c n q a0 a1 a2 a3 a4 a5 a6 a7 v a9 :=
  h.num hP (h.spot.below hb h.spot.lt) (grown_of_below hb _)
theorem EnS.drew (h : EnS w W P A c n q a0 a1 a2 a3 a4 a5 a6 a7 v a9) (hP : P < w.heap.size) : EnS w W.drew P A c n q a0 a1 a2 a3 a4 a5 a6 a7 v a9 := h.below hP (below_drew1 (Below.refl _ _))
theorem EnS.f (h : EnS w W P A c n q a0 a1 a2 a3 a4 a5 a6 a7 v a9) (i : Nat) : W.frozen? ⟨w.heap.size + 1, i, none⟩ = false := by simp [World.frozen?, show W.heap[w.heap.size + 1]? = _ from h.ent]
theorem EnS.put (h : EnS w W P A c n q a0 a1 a2 a3 a4 a5 a6 a7 v a9) (hP : P < w.heap.size) (i : Nat) (u : Value) {b0 b1 b2 b3 b4 b5 b6 b7 b9 : Int} {v' : Value}
    (he : (#[.int .i64 a0, .int .i64 a1, .int .i64 a2, .int .i64 a3, .int .i64 a4, .int .i64 a5, .int .i64 a6, .int .i64 a7, v, .int .i64 a9] : Array Value).setIfInBounds i u = #[.int .i64 b0, .int .i64 b1, .int .i64 b2, .int .i64 b3, .int .i64 b4, .int .i64 b5, .int .i64 b6, .int .i64 b7, v', .int .i64 b9]) :
    EnS w (W.setCell ⟨w.heap.size + 1, i, none⟩ u) P A c n q b0 b1 b2 b3 b4 b5 b6 b7 v' b9 := by
  refine ⟨(Below.heap_setCell W _ _ _ (by show P ≠ w.heap.size + 1; omega)).trans h.spot, (Below.heap_setCell W _ _ _ (by show w.heap.size ≠ w.heap.size + 1; omega)).trans h.ptr, ?_, grown_setT h.grown _ _ _ (Nat.le_succ _)⟩
  unfold EntC World.setCell
  have h1 := h.ent
  unfold EntC at h1
  have he2 := congrArg Array.toList he
  simp [Array.getElem?_modify, h1]
  simpa using he2
theorem EnS.c0 (h : EnS w W P A c n q a0 a1 a2 a3 a4 a5 a6 a7 v a9) : W.cell? ⟨w.heap.size + 1, 0, none⟩ = some (.int .i64 a0) := by simp [World.cell?, show W.heap[w.heap.size + 1]? = _ from h.ent]
theorem EnS.c1 (h : EnS w W P A c n q a0 a1 a2 a3 a4 a5 a6 a7 v a9) : W.cell? ⟨w.heap.size + 1, 1, none⟩ = some (.int .i64 a1) := by simp [World.cell?, show W.heap[w.heap.size + 1]? = _ from h.ent]
theorem EnS.c2 (h : EnS w W P A c n q a0 a1 a2 a3 a4 a5 a6 a7 v a9) : W.cell? ⟨w.heap.size + 1, 2, none⟩ = some (.int .i64 a2) := by simp [World.cell?, show W.heap[w.heap.size + 1]? = _ from h.ent]
theorem EnS.c3 (h : EnS w W P A c n q a0 a1 a2 a3 a4 a5 a6 a7 v a9) : W.cell? ⟨w.heap.size + 1, 3, none⟩ = some (.int .i64 a3) := by simp [World.cell?, show W.heap[w.heap.size + 1]? = _ from h.ent]
theorem EnS.c4 (h : EnS w W P A c n q a0 a1 a2 a3 a4 a5 a6 a7 v a9) : W.cell? ⟨w.heap.size + 1, 4, none⟩ = some (.int .i64 a4) := by simp [World.cell?, show W.heap[w.heap.size + 1]? = _ from h.ent]
theorem EnS.c5 (h : EnS w W P A c n q a0 a1 a2 a3 a4 a5 a6 a7 v a9) : W.cell? ⟨w.heap.size + 1, 5, none⟩ = some (.int .i64 a5) := by simp [World.cell?, show W.heap[w.heap.size + 1]? = _ from h.ent]
theorem EnS.c6 (h : EnS w W P A c n q a0 a1 a2 a3 a4 a5 a6 a7 v a9) : W.cell? ⟨w.heap.size + 1, 6, none⟩ = some (.int .i64 a6) := by simp [World.cell?, show W.heap[w.heap.size + 1]? = _ from h.ent]
theorem EnS.c7 (h : EnS w W P A c n q a0 a1 a2 a3 a4 a5 a6 a7 v a9) : W.cell? ⟨w.heap.size + 1, 7, none⟩ = some (.int .i64 a7) := by simp [World.cell?, show W.heap[w.heap.size + 1]? = _ from h.ent]
theorem EnS.c8 (h : EnS w W P A c n q a0 a1 a2 a3 a4 a5 a6 a7 v a9) : W.cell? ⟨w.heap.size + 1, 8, none⟩ = some (v) := by simp [World.cell?, show W.heap[w.heap.size + 1]? = _ from h.ent]
theorem EnS.c9 (h : EnS w W P A c n q a0 a1 a2 a3 a4 a5 a6 a7 v a9) : W.cell? ⟨w.heap.size + 1, 9, none⟩ = some (.int .i64 a9) := by simp [World.cell?, show W.heap[w.heap.size + 1]? = _ from h.ent]
end
theorem TR.set {w : World} {base E : Nat} {v : Value} {xs : List K.S111} (h : TR w base v xs) (hE : E < base) (k : Nat) (u : Value) : TR (w.setCell ⟨E, k, none⟩ u) base v xs := h.grown (grownBy_set w E k u (World.grownBy.refl w _)) hE
theorem RdP.err_inv {α : Type} {w : World} {P : Nat} {A : Option Addr} {c : Nat} {b : List Int} {ret : α → Value → World → Prop} {f : Int} {e : Ending} {w' : World} (h : RdP w P A c b ret (.error f) e w') : e = .panicked (errCh f) ∧ w.grownBy w' (some P) := ⟨h.2, h.1⟩
theorem RdP.ok_inv {α : Type} {w : World} {P : Nat} {A : Option Addr} {c : Nat} {b : List Int} {ret : α → Value → World → Prop} {x : α} {r : List Int} {e : Ending} {w' : World} (h : RdP w P A c b ret (.ok (x, r)) e w') : ∃ v, e = .returned v ∧ ret x v w' ∧ SpotAt w' P A c b.length (b.length - r.length) ∧ w.grownBy w' (some P) := by
  obtain ⟨hg, v, he, hv, hs⟩ := h
  exact ⟨v, he, hv, hs, hg⟩
/-- An entry handed back. -/
def EntR (base : Nat) (x : K.S26) (r : Value) (w' : World) : Prop := ∃ u, r = .agg #[.int .i64 x.f0, .int .i64 x.f1, .int .i64 x.f2.f0, .int .i64 x.f2.f1, .int .i64 x.f2.f2, .int .i64 x.f2.f3, .int .i64 x.f2.f4, .int .i64 x.f2.f5, u, .int .i64 x.f2.f7] ∧ TR w' base u x.f2.f6
def entR1.T : Bool × List (List Nat × List Nat) := (true, [([], []), ([0], [0]), ([1], [1]), ([], []), ([3], [3]), ([4, 2], [4]), ([0, 1, 2, 5], []), ([6, 2, 5, 0, 1, 2, 5], [2, 6]), ([0, 1, 2, 3, 4, 5, 6, 7], []), ([8, 5, 7, 0, 1, 2, 3, 4, 5, 6, 7], [5, 8])])
def entR1.B : List Nat := [0, 1, 3, 0, 8, 31, 63, 127, 255, 511]
theorem entR1.tab : rtab .any (opsOf Try.f94 1) = entR1.T := by kernel_rfl
theorem entR1.bits : waitsOk entR1.T.2 entR1.B = true := by kernel_rfl
def entR3.T : Bool × List (List Nat × List Nat) := (true, [([], []), ([], []), ([], []), ([], []), ([3], [3]), ([4], [4]), ([], []), ([6], [6]), ([7, 5], [7]), ([], []), ([9], [9]), ([10, 8], [10]), ([0, 0, 3, 4, 5, 8, 11], [0]), ([12, 0, 3, 4, 5, 8, 11], [12]), ([13, 5, 11, 0, 3, 4, 5, 8, 11], [5, 13]), ([1, 0, 1, 3, 4, 5, 6, 7, 8, 11, 12, 13, 14], [1]), ([15, 0, 1, 3, 4, 5, 6, 7, 8, 11, 12, 13, 14], [15]), ([16, 8, 14, 0, 1, 3, 4, 5, 6, 7, 8, 11, 12, 13, 14], [8, 16]), ([2, 0, 1, 2, 3, 4, 5, 6, 7, 8, 9, 10, 11, 12, 13, 14, 15, 16, 17], [2]), ([18, 0, 1, 2, 3, 4, 5, 6, 7, 8, 9, 10, 11, 12, 13, 14, 15, 16, 17], [18]), ([19, 11, 17, 0, 1, 2, 3, 4, 5, 6, 7, 8, 9, 10, 11, 12, 13, 14, 15, 16, 17], [11, 19])])
def entR3.B : List Nat := [0, 0, 0, 0, 8, 24, 0, 64, 248, 0, 512, 2040, 4089, 8185, 16377, 32763, 65531, 131067, 262143, 524287, 1048575]
theorem entR3.tab : rtab .any (opsOf Try.f94 3) = entR3.T := by kernel_rfl
theorem entR3.bits : waitsOk entR3.T.2 entR3.B = true := by kernel_rfl
def entR10.T : Bool × List (List Nat × List Nat) := (true, [([], []), ([], []), ([], []), ([], []), ([3], [3]), ([4], [4]), ([], []), ([6], [6]), ([7, 5], [7]), ([], []), ([9], [9]), ([10, 8], [10]), ([0, 0, 3, 4, 5, 8, 11], [0]), ([12, 0, 3, 4, 5, 8, 11], [12]), ([13, 5, 11, 0, 3, 4, 5, 8, 11], [5, 13]), ([1, 0, 1, 3, 4, 5, 6, 7, 8, 11, 12, 13, 14], [1]), ([15, 0, 1, 3, 4, 5, 6, 7, 8, 11, 12, 13, 14], [15]), ([16, 8, 14, 0, 1, 3, 4, 5, 6, 7, 8, 11, 12, 13, 14], [8, 16]), ([2, 0, 1, 2, 3, 4, 5, 6, 7, 8, 9, 10, 11, 12, 13, 14, 15, 16, 17], [2]), ([18, 0, 1, 2, 3, 4, 5, 6, 7, 8, 9, 10, 11, 12, 13, 14, 15, 16, 17], [18]), ([19, 11, 17, 0, 1, 2, 3, 4, 5, 6, 7, 8, 9, 10, 11, 12, 13, 14, 15, 16, 17], [11, 19])])
def entR10.B : List Nat := [0, 0, 0, 0, 8, 24, 0, 64, 248, 0, 512, 2040, 4089, 8185, 16377, 32763, 65531, 131067, 262143, 524287, 1048575]
theorem entR10.tab : rtab .any (opsOf Try.f94 10) = entR10.T := by kernel_rfl
theorem entR10.bits : waitsOk entR10.T.2 entR10.B = true := by kernel_rfl
set_option maxHeartbeats 16000000 in
theorem sent_is {w0 w : World} {P c p : Nat} {A : Option Addr} {b : List Int} (hC : Kd.C (Kd.int .u8) w0 A b.length b) (hc : b.length ≤ c) (hB : areBytesN b = true) (hb : Below w0.heap.size w0 w) (hP : w0.heap.size ≤ P) (k : SpotAt w P A c b.length p) (hp : p ≤ b.length) :
    Calls Try.prog 94 #[.agg #[.pointer (some ⟨P, 0, none⟩)]] w (RdP w P A c b (EntR w.heap.size) (rent (b.drop p))) := by
  have hPl := k.lt
  obtain ⟨w2, hw2⟩ : ∃ w2, w2 = (w.alloc (.cells #[.pointer (some ⟨P, 0, none⟩)] 140)).alloc (.cells #[.int .i64 0, .int .i64 0, .int .i64 0, .int .i64 0, .int .i64 0, .int .i64 0, .int .i64 0, .int .i64 0, .slice none 0 0, .int .i64 0] 26) := ⟨_, rfl⟩
  have hb2 : Below w.heap.size w w2 := by rw [hw2]; exact ((Below.refl _ _).alloc (Nat.le_refl _) _).alloc (by simp) _
  have hE2 : EnS w w2 P A c b.length p 0 0 0 0 0 0 0 0 (.slice none 0 0) 0 := by
    refine ⟨k.below hb2 hPl, ?_, ?_, grown_of_below hb2 _⟩
    · rw [hw2]; exact (Below.heap_alloc _ _ _ (by simp)).trans (World.alloc_heap_new w _)
    · rw [hw2]
      have := World.alloc_heap_new (w.alloc (.cells #[.pointer (some ⟨P, 0, none⟩)] 140)) (.cells #[.int .i64 0, .int .i64 0, .int .i64 0, .int .i64 0, .int .i64 0, .int .i64 0, .int .i64 0, .int .i64 0, .slice none 0 0, .int .i64 0] 26)
      rwa [World.size_alloc] at this
  have HG0 := Lib.hid (fun (W : World) (hg : w.grownBy W (some P)) => Kd.C_below hC (below_of_grown hb hg hP))
  have HBB := Lib.hid hB
  have HC := Lib.hid hC
  have HB0 := Lib.hid hb
  obtain ⟨X, hX⟩ : ∃ X, rent (b.drop p) = X := ⟨_, rfl⟩
  rw [hX]
  unfold rent most at hX
  have HX0 := Lib.hid hX.symm
  have HE2 := Lib.hid (hE2.drew hPl)
  have HW2 := Lib.hid hw2
  clear hC hB hb k hX hb2 hE2
  go_enter Try.func94, Try.ntmps94
  go_upto_region 1 with (fail)
  rw [← HW2.out]
  clear hw2
  refine start_ (n := 10) (S := fun w' => w'.cell? ⟨w.heap.size, 0, none⟩ = some (.pointer (some ⟨P, 0, none⟩))) (ds := []) #[false, false, false, false, false, false, false, false, false, false] (by kernel_rfl) rfl rfl HE2.out.ptr.c0 (fun hHeld => ?_); refine with_tabW entR1.tab entR1.bits (fun HT_ HW_ => ?_)
  refine pure_ (i := 0) (N := (some 4)) (v := ?_) (a' := ?_) #[true, false, false, false, false, false, false, false, false, false] rfl rfl (any_of HT_.out (by kernel_rfl)) (fun _ _ _ h => h) (Or.inl ⟨by rfl, ?_⟩) ?_ ?_
  rotate_left
  · intro w'
    go_simp
    with_reducible rfl
  rotate_left
  · simp only [Act.put, List.setIfInBounds_toArray, List.set_cons_zero, List.set_cons_succ, i64_w, i32_w]
    rfl
  refine pure_ (i := 3) (N := (some 7)) (v := ?_) (a' := ?_) #[true, false, false, true, false, false, false, false, false, false] rfl rfl (any_of HT_.out (by kernel_rfl)) (fun _ _ _ h => h) (Or.inl ⟨by rfl, ?_⟩) ?_ ?_
  rotate_left
  · intro w'
    go_simp
    with_reducible rfl
  rotate_left
  · simp only [Act.put, List.setIfInBounds_toArray, List.set_cons_zero, List.set_cons_succ, i64_w, i32_w]
    rfl
  refine take_ (i := 1) (N := (some 5)) (v := ?_) (a' := ?_) #[true, true, false, true, false, false, false, false, false, false] rfl rfl (take_ofW HT_.out HW_.out (by kernel_rfl)) (fun _ _ _ h => h) (Or.inl ⟨by rfl, ?_⟩) hHeld ?_ ?_
  rotate_left
  · rintro w' s0
    go_simp
    with_reducible rfl
  rotate_left
  · simp only [Act.put, List.setIfInBounds_toArray, List.set_cons_zero, List.set_cons_succ, i64_w, i32_w]
    rfl
  refine take_ (i := 4) (N := (some 8)) (v := ?_) (a' := ?_) #[true, true, false, true, true, false, false, false, false, false] rfl rfl (take_ofW HT_.out HW_.out (by kernel_rfl)) (fun _ _ _ h => h) (Or.inl ⟨by rfl, ?_⟩) hHeld ?_ ?_
  rotate_left
  · rintro w' s0
    go_simp
    with_reducible rfl
  rotate_left
  · simp only [Act.put, List.setIfInBounds_toArray, List.set_cons_zero, List.set_cons_succ, i64_w, i32_w]
    rfl
  refine one_ (i := 2) (N := (some 6)) #[true, true, true, true, true, false, false, false, false, false] rfl rfl (one_of HT_.out (by kernel_rfl)) (by decide) (fun K hK => ?_)
  have hX := HX0.out
  rcases hres : rnum 2147483647 (b.drop p) with f | ⟨who, r⟩
  · rw [hres, bnd_err] at hX
    refine goesP_ Try.func131 (by kernel_rfl) rfl #[.pointer (some ⟨P, 0, none⟩), .int .i64 2147483647] (by rfl) rfl rfl (by (try simp only [List.map_toArray, List.map_cons, List.map_nil]); first | done | rfl) ?_
    refine (snum_err HE2.out.spot (HG0.out _ HE2.out.grown) hc HBB.out hp 2147483647 (by decide) (by decide) f hres).mono ?_
    rintro e w' ⟨rfl, hg⟩
    exact .inr ⟨_, rfl, And.intro rfl (RdP.err hX (HE2.out.grown.trans hg))⟩
  obtain ⟨q1, hq1, rfl, hql, hn0who, hn1who⟩ := rnum_rest HBB.out hp hres
  rw [hres, bnd_ok] at hX
  have HX1 := Lib.hid hX
  refine goesP_ Try.func131 (by kernel_rfl) rfl #[.pointer (some ⟨P, 0, none⟩), .int .i64 2147483647] (by rfl) rfl rfl (by (try simp only [List.map_toArray, List.map_cons, List.map_nil]); first | done | rfl) ?_
  refine (snum_ok HE2.out.spot (HG0.out _ HE2.out.grown) hc HBB.out hp 2147483647 (by decide) (by decide) who _ hres).mono ?_
  rintro e v3 ⟨rfl, hk, hg⟩
  rw [hql] at hk
  have HE3 := Lib.hid (HE2.out.num hPl hk hg)
  clear hk hg hres hX hql HX0 HE2
  refine .inl ⟨_, rfl, ?_⟩
  refine hK.out _ _ HE3.out.ptr.c0 (fun hHeld => ?_)
  clear hK K
  refine norm_ (a' := ?_) ?_ ?_
  rotate_left
  · show Act.put _ (some 6) _ = _
    simp only [Act.put, List.setIfInBounds_toArray, List.set_cons_zero, List.set_cons_succ, i64_w, i32_w]
    rfl
  refine one_ (i := 5) (N := (some 9)) #[true, true, true, true, true, true, false, false, false, false] rfl rfl (one_of HT_.out (by kernel_rfl)) (by decide) (fun K hK => ?_)
  have hX := HX1.out
  rcases hres : rnum 2147483647 (b.drop q1) with f | ⟨seq, r⟩
  · rw [hres, bnd_err] at hX
    refine goesP_ Try.func131 (by kernel_rfl) rfl #[.pointer (some ⟨P, 0, none⟩), .int .i64 2147483647] (by rfl) rfl rfl (by (try simp only [List.map_toArray, List.map_cons, List.map_nil]); first | done | rfl) ?_
    refine (snum_err HE3.out.spot (HG0.out _ HE3.out.grown) hc HBB.out hq1 2147483647 (by decide) (by decide) f hres).mono ?_
    rintro e w' ⟨rfl, hg⟩
    exact .inr ⟨_, rfl, And.intro rfl (RdP.err hX (HE3.out.grown.trans hg))⟩
  obtain ⟨q2, hq2, rfl, hql, hn0seq, hn1seq⟩ := rnum_rest HBB.out hq1 hres
  rw [hres, bnd_ok] at hX
  have HX2 := Lib.hid hX
  refine goesP_ Try.func131 (by kernel_rfl) rfl #[.pointer (some ⟨P, 0, none⟩), .int .i64 2147483647] (by rfl) rfl rfl (by (try simp only [List.map_toArray, List.map_cons, List.map_nil]); first | done | rfl) ?_
  refine (snum_ok HE3.out.spot (HG0.out _ HE3.out.grown) hc HBB.out hq1 2147483647 (by decide) (by decide) seq _ hres).mono ?_
  rintro e v4 ⟨rfl, hk, hg⟩
  rw [hql] at hk
  have HE4 := Lib.hid (HE3.out.num hPl hk hg)
  clear hk hg hres hX hql HX1 HE3
  refine .inl ⟨_, rfl, ?_⟩
  refine hK.out _ _ HE4.out.ptr.c0 (fun hHeld => ?_)
  clear hK K
  refine norm_ (a' := ?_) ?_ ?_
  rotate_left
  · show Act.put _ (some 9) _ = _
    simp only [Act.put, List.setIfInBounds_toArray, List.set_cons_zero, List.set_cons_succ, i64_w, i32_w]
    rfl
  refine pure_ (i := 6) (N := (some 10)) (v := ?_) (a' := ?_) #[true, true, true, true, true, true, true, false, false, false] rfl rfl (any_of HT_.out (by kernel_rfl)) (fun _ _ _ h => h) (Or.inl ⟨by rfl, ?_⟩) ?_ ?_
  rotate_left
  · intro w'
    go_simp
    with_reducible rfl
  rotate_left
  · simp only [Act.put, List.setIfInBounds_toArray, List.set_cons_zero, List.set_cons_succ, i64_w, i32_w]
    rfl
  refine one_ (i := 7) (N := none) #[true, true, true, true, true, true, true, true, false, false] rfl rfl (one_of HT_.out (by kernel_rfl)) (by decide) (fun K hK => ?_)
  have hcc := HE4.out.c0
  have hff := HE4.out.f 0
  refine skip_ (w1 := (v4.setCell ⟨w.heap.size + 1, 0, none⟩ (.int .i64 who))) (by rfl) rfl ?_ ?_
  · go_simp
    try rfl
  have HE5 : Hid (EnS w (v4.setCell ⟨w.heap.size + 1, 0, none⟩ (.int .i64 who)) P A c b.length q2 who 0 0 0 0 0 0 0 (.slice none 0 0) 0) := Lib.hid (HE4.out.put hPl 0 (.int .i64 who) rfl)
  clear hcc hff HE4
  refine hK.out _ _ HE5.out.ptr.c0 (fun hHeld => ?_)
  clear hK K
  refine pure_ (i := 8) (N := (some 11)) (v := ?_) (a' := ?_) #[true, true, true, true, true, true, true, true, true, false] rfl rfl (any_of HT_.out (by kernel_rfl)) (fun _ _ _ h => h) (Or.inl ⟨by rfl, ?_⟩) ?_ ?_
  rotate_left
  · intro w'
    go_simp
    with_reducible rfl
  rotate_left
  · simp only [Act.put, List.setIfInBounds_toArray, List.set_cons_zero, List.set_cons_succ, i64_w, i32_w]
    rfl
  refine one_ (i := 9) (N := none) #[true, true, true, true, true, true, true, true, true, true] rfl rfl (one_of HT_.out (by kernel_rfl)) (by decide) (fun K hK => ?_)
  have hcc := HE5.out.c1
  have hff := HE5.out.f 1
  refine skip_ (w1 := ((v4.setCell ⟨w.heap.size + 1, 0, none⟩ (.int .i64 who)).setCell ⟨w.heap.size + 1, 1, none⟩ (.int .i64 seq))) (by rfl) rfl ?_ ?_
  · go_simp
    try rfl
  have HE6 : Hid (EnS w ((v4.setCell ⟨w.heap.size + 1, 0, none⟩ (.int .i64 who)).setCell ⟨w.heap.size + 1, 1, none⟩ (.int .i64 seq)) P A c b.length q2 who seq 0 0 0 0 0 0 (.slice none 0 0) 0) := Lib.hid (HE5.out.put hPl 1 (.int .i64 seq) rfl)
  clear hcc hff HE5
  refine hK.out _ _ HE6.out.ptr.c0 (fun hHeld => ?_)
  clear hK K
  refine done_ (done_of HT_.out (by kernel_rfl)) ?_
  go_upto_region 3 with (fail)
  have HE7 := Lib.hid (HE6.out.drew hPl)
  refine start_ (n := 21) (S := fun w' => w'.cell? ⟨w.heap.size, 0, none⟩ = some (.pointer (some ⟨P, 0, none⟩))) (ds := []) #[false, false, false, false, false, false, false, false, false, false, false, false, false, false, false, false, false, false, false, false, false] (by kernel_rfl) rfl rfl HE7.out.ptr.c0 (fun hHeld => ?_); refine with_tabW entR3.tab entR3.bits (fun HT_ HW_ => ?_)
  refine pure_ (i := 0) (N := (some 13)) (v := ?_) (a' := ?_) #[true, false, false, false, false, false, false, false, false, false, false, false, false, false, false, false, false, false, false, false, false] rfl rfl (any_of HT_.out (by kernel_rfl)) (fun _ _ _ h => h) (Or.inl ⟨by rfl, ?_⟩) ?_ ?_
  rotate_left
  · intro w'
    go_simp
    with_reducible rfl
  rotate_left
  · simp only [Act.put, List.setIfInBounds_toArray, List.set_cons_zero, List.set_cons_succ, i64_w, i32_w]
    rfl
  refine pure_ (i := 1) (N := (some 14)) (v := ?_) (a' := ?_) #[true, true, false, false, false, false, false, false, false, false, false, false, false, false, false, false, false, false, false, false, false] rfl rfl (any_of HT_.out (by kernel_rfl)) (fun _ _ _ h => h) (Or.inl ⟨by rfl, ?_⟩) ?_ ?_
  rotate_left
  · intro w'
    go_simp
    with_reducible rfl
  rotate_left
  · simp only [Act.put, List.setIfInBounds_toArray, List.set_cons_zero, List.set_cons_succ, i64_w, i32_w]
    rfl
  refine pure_ (i := 2) (N := (some 15)) (v := ?_) (a' := ?_) #[true, true, true, false, false, false, false, false, false, false, false, false, false, false, false, false, false, false, false, false, false] rfl rfl (any_of HT_.out (by kernel_rfl)) (fun _ _ _ h => h) (Or.inl ⟨by rfl, ?_⟩) ?_ ?_
  rotate_left
  · intro w'
    go_simp
    with_reducible rfl
  rotate_left
  · simp only [Act.put, List.setIfInBounds_toArray, List.set_cons_zero, List.set_cons_succ, i64_w, i32_w]
    rfl
  refine pure_ (i := 3) (N := (some 16)) (v := ?_) (a' := ?_) #[true, true, true, true, false, false, false, false, false, false, false, false, false, false, false, false, false, false, false, false, false] rfl rfl (any_of HT_.out (by kernel_rfl)) (fun _ _ _ h => h) (Or.inl ⟨by rfl, ?_⟩) ?_ ?_
  rotate_left
  · intro w'
    go_simp
    with_reducible rfl
  rotate_left
  · simp only [Act.put, List.setIfInBounds_toArray, List.set_cons_zero, List.set_cons_succ, i64_w, i32_w]
    rfl
  refine pure_ (i := 6) (N := (some 19)) (v := ?_) (a' := ?_) #[true, true, true, true, false, false, true, false, false, false, false, false, false, false, false, false, false, false, false, false, false] rfl rfl (any_of HT_.out (by kernel_rfl)) (fun _ _ _ h => h) (Or.inl ⟨by rfl, ?_⟩) ?_ ?_
  rotate_left
  · intro w'
    go_simp
    with_reducible rfl
  rotate_left
  · simp only [Act.put, List.setIfInBounds_toArray, List.set_cons_zero, List.set_cons_succ, i64_w, i32_w]
    rfl
  refine pure_ (i := 9) (N := (some 22)) (v := ?_) (a' := ?_) #[true, true, true, true, false, false, true, false, false, true, false, false, false, false, false, false, false, false, false, false, false] rfl rfl (any_of HT_.out (by kernel_rfl)) (fun _ _ _ h => h) (Or.inl ⟨by rfl, ?_⟩) ?_ ?_
  rotate_left
  · intro w'
    go_simp
    with_reducible rfl
  rotate_left
  · simp only [Act.put, List.setIfInBounds_toArray, List.set_cons_zero, List.set_cons_succ, i64_w, i32_w]
    rfl
  refine take_ (i := 4) (N := (some 17)) (v := ?_) (a' := ?_) #[true, true, true, true, true, false, true, false, false, true, false, false, false, false, false, false, false, false, false, false, false] rfl rfl (take_ofW HT_.out HW_.out (by kernel_rfl)) (fun _ _ _ h => h) (Or.inl ⟨by rfl, ?_⟩) hHeld ?_ ?_
  rotate_left
  · rintro w' s0
    go_simp
    with_reducible rfl
  rotate_left
  · simp only [Act.put, List.setIfInBounds_toArray, List.set_cons_zero, List.set_cons_succ, i64_w, i32_w]
    rfl
  refine take_ (i := 7) (N := (some 20)) (v := ?_) (a' := ?_) #[true, true, true, true, true, false, true, true, false, true, false, false, false, false, false, false, false, false, false, false, false] rfl rfl (take_ofW HT_.out HW_.out (by kernel_rfl)) (fun _ _ _ h => h) (Or.inl ⟨by rfl, ?_⟩) hHeld ?_ ?_
  rotate_left
  · rintro w' s0
    go_simp
    with_reducible rfl
  rotate_left
  · simp only [Act.put, List.setIfInBounds_toArray, List.set_cons_zero, List.set_cons_succ, i64_w, i32_w]
    rfl
  refine take_ (i := 10) (N := (some 23)) (v := ?_) (a' := ?_) #[true, true, true, true, true, false, true, true, false, true, true, false, false, false, false, false, false, false, false, false, false] rfl rfl (take_ofW HT_.out HW_.out (by kernel_rfl)) (fun _ _ _ h => h) (Or.inl ⟨by rfl, ?_⟩) hHeld ?_ ?_
  rotate_left
  · rintro w' s0
    go_simp
    with_reducible rfl
  rotate_left
  · simp only [Act.put, List.setIfInBounds_toArray, List.set_cons_zero, List.set_cons_succ, i64_w, i32_w]
    rfl
  refine one_ (i := 5) (N := (some 18)) #[true, true, true, true, true, true, true, true, false, true, true, false, false, false, false, false, false, false, false, false, false] rfl rfl (one_of HT_.out (by kernel_rfl)) (by decide) (fun K hK => ?_)
  have hX := HX2.out
  rcases hres : rnum 3 (b.drop q2) with f | ⟨kk, r⟩
  · rw [hres, bnd_err] at hX
    refine goesP_ Try.func131 (by kernel_rfl) rfl #[.pointer (some ⟨P, 0, none⟩), .int .i64 3] (by rfl) rfl rfl (by (try simp only [List.map_toArray, List.map_cons, List.map_nil]); first | done | rfl) ?_
    refine (snum_err HE7.out.spot (HG0.out _ HE7.out.grown) hc HBB.out hq2 3 (by decide) (by decide) f hres).mono ?_
    rintro e w' ⟨rfl, hg⟩
    exact .inr ⟨_, rfl, And.intro rfl (RdP.err hX (HE7.out.grown.trans hg))⟩
  obtain ⟨q3, hq3, rfl, hql, hn0kk, hn1kk⟩ := rnum_rest HBB.out hq2 hres
  rw [hres, bnd_ok] at hX
  have HX3 := Lib.hid hX
  refine goesP_ Try.func131 (by kernel_rfl) rfl #[.pointer (some ⟨P, 0, none⟩), .int .i64 3] (by rfl) rfl rfl (by (try simp only [List.map_toArray, List.map_cons, List.map_nil]); first | done | rfl) ?_
  refine (snum_ok HE7.out.spot (HG0.out _ HE7.out.grown) hc HBB.out hq2 3 (by decide) (by decide) kk _ hres).mono ?_
  rintro e v8 ⟨rfl, hk, hg⟩
  rw [hql] at hk
  have HE8 := Lib.hid (HE7.out.num hPl hk hg)
  clear hk hg hres hX hql HX2 HE7
  refine .inl ⟨_, rfl, ?_⟩
  refine hK.out _ _ HE8.out.ptr.c0 (fun hHeld => ?_)
  clear hK K
  refine norm_ (a' := ?_) ?_ ?_
  rotate_left
  · show Act.put _ (some 18) _ = _
    simp only [Act.put, List.setIfInBounds_toArray, List.set_cons_zero, List.set_cons_succ, i64_w, i32_w]
    rfl
  refine one_ (i := 8) (N := (some 21)) #[true, true, true, true, true, true, true, true, true, true, true, false, false, false, false, false, false, false, false, false, false] rfl rfl (one_of HT_.out (by kernel_rfl)) (by decide) (fun K hK => ?_)
  have hX := HX3.out
  rcases hres : rnum 2147483647 (b.drop q3) with f | ⟨fm, r⟩
  · rw [hres, bnd_err] at hX
    refine goesP_ Try.func131 (by kernel_rfl) rfl #[.pointer (some ⟨P, 0, none⟩), .int .i64 2147483647] (by rfl) rfl rfl (by (try simp only [List.map_toArray, List.map_cons, List.map_nil]); first | done | rfl) ?_
    refine (snum_err HE8.out.spot (HG0.out _ HE8.out.grown) hc HBB.out hq3 2147483647 (by decide) (by decide) f hres).mono ?_
    rintro e w' ⟨rfl, hg⟩
    exact .inr ⟨_, rfl, And.intro rfl (RdP.err hX (HE8.out.grown.trans hg))⟩
  obtain ⟨q4, hq4, rfl, hql, hn0fm, hn1fm⟩ := rnum_rest HBB.out hq3 hres
  rw [hres, bnd_ok] at hX
  have HX4 := Lib.hid hX
  refine goesP_ Try.func131 (by kernel_rfl) rfl #[.pointer (some ⟨P, 0, none⟩), .int .i64 2147483647] (by rfl) rfl rfl (by (try simp only [List.map_toArray, List.map_cons, List.map_nil]); first | done | rfl) ?_
  refine (snum_ok HE8.out.spot (HG0.out _ HE8.out.grown) hc HBB.out hq3 2147483647 (by decide) (by decide) fm _ hres).mono ?_
  rintro e v9 ⟨rfl, hk, hg⟩
  rw [hql] at hk
  have HE9 := Lib.hid (HE8.out.num hPl hk hg)
  clear hk hg hres hX hql HX3 HE8
  refine .inl ⟨_, rfl, ?_⟩
  refine hK.out _ _ HE9.out.ptr.c0 (fun hHeld => ?_)
  clear hK K
  refine norm_ (a' := ?_) ?_ ?_
  rotate_left
  · show Act.put _ (some 21) _ = _
    simp only [Act.put, List.setIfInBounds_toArray, List.set_cons_zero, List.set_cons_succ, i64_w, i32_w]
    rfl
  refine one_ (i := 11) (N := (some 24)) #[true, true, true, true, true, true, true, true, true, true, true, true, false, false, false, false, false, false, false, false, false] rfl rfl (one_of HT_.out (by kernel_rfl)) (by decide) (fun K hK => ?_)
  have hX := HX4.out
  rcases hres : rnum 2147483647 (b.drop q4) with f | ⟨tt, r⟩
  · rw [hres, bnd_err] at hX
    refine goesP_ Try.func131 (by kernel_rfl) rfl #[.pointer (some ⟨P, 0, none⟩), .int .i64 2147483647] (by rfl) rfl rfl (by (try simp only [List.map_toArray, List.map_cons, List.map_nil]); first | done | rfl) ?_
    refine (snum_err HE9.out.spot (HG0.out _ HE9.out.grown) hc HBB.out hq4 2147483647 (by decide) (by decide) f hres).mono ?_
    rintro e w' ⟨rfl, hg⟩
    exact .inr ⟨_, rfl, And.intro rfl (RdP.err hX (HE9.out.grown.trans hg))⟩
  obtain ⟨q5, hq5, rfl, hql, hn0tt, hn1tt⟩ := rnum_rest HBB.out hq4 hres
  rw [hres, bnd_ok] at hX
  have HX5 := Lib.hid hX
  refine goesP_ Try.func131 (by kernel_rfl) rfl #[.pointer (some ⟨P, 0, none⟩), .int .i64 2147483647] (by rfl) rfl rfl (by (try simp only [List.map_toArray, List.map_cons, List.map_nil]); first | done | rfl) ?_
  refine (snum_ok HE9.out.spot (HG0.out _ HE9.out.grown) hc HBB.out hq4 2147483647 (by decide) (by decide) tt _ hres).mono ?_
  rintro e v10 ⟨rfl, hk, hg⟩
  rw [hql] at hk
  have HE10 := Lib.hid (HE9.out.num hPl hk hg)
  clear hk hg hres hX hql HX4 HE9
  refine .inl ⟨_, rfl, ?_⟩
  refine hK.out _ _ HE10.out.ptr.c0 (fun hHeld => ?_)
  clear hK K
  refine norm_ (a' := ?_) ?_ ?_
  rotate_left
  · show Act.put _ (some 24) _ = _
    simp only [Act.put, List.setIfInBounds_toArray, List.set_cons_zero, List.set_cons_succ, i64_w, i32_w]
    rfl
  refine pure_ (i := 12) (N := (some 25)) (v := ?_) (a' := ?_) #[true, true, true, true, true, true, true, true, true, true, true, true, true, false, false, false, false, false, false, false, false] rfl rfl (any_of HT_.out (by kernel_rfl)) (fun _ _ _ h => h) (Or.inl ⟨by rfl, ?_⟩) ?_ ?_
  rotate_left
  · intro w'
    go_simp
    with_reducible rfl
  rotate_left
  · simp only [Act.put, List.setIfInBounds_toArray, List.set_cons_zero, List.set_cons_succ, i64_w, i32_w]
    rfl
  refine pure_ (i := 13) (N := (some 26)) (v := ?_) (a' := ?_) #[true, true, true, true, true, true, true, true, true, true, true, true, true, true, false, false, false, false, false, false, false] rfl rfl (any_of HT_.out (by kernel_rfl)) (fun _ _ _ h => h) (Or.inl ⟨by rfl, ?_⟩) ?_ ?_
  rotate_left
  · intro w'
    go_simp
    with_reducible rfl
  rotate_left
  · simp only [Act.put, List.setIfInBounds_toArray, List.set_cons_zero, List.set_cons_succ, i64_w, i32_w]
    rfl
  refine one_ (i := 14) (N := none) #[true, true, true, true, true, true, true, true, true, true, true, true, true, true, true, false, false, false, false, false, false] rfl rfl (one_of HT_.out (by kernel_rfl)) (by decide) (fun K hK => ?_)
  have hcc := HE10.out.c2
  have hff := HE10.out.f 2
  refine skip_ (w1 := (v10.setCell ⟨w.heap.size + 1, 2, none⟩ (.int .i64 kk))) (by rfl) rfl ?_ ?_
  · go_simp
    try rfl
  have HE11 : Hid (EnS w (v10.setCell ⟨w.heap.size + 1, 2, none⟩ (.int .i64 kk)) P A c b.length q5 who seq kk 0 0 0 0 0 (.slice none 0 0) 0) := Lib.hid (HE10.out.put hPl 2 (.int .i64 kk) rfl)
  clear hcc hff HE10
  refine hK.out _ _ HE11.out.ptr.c0 (fun hHeld => ?_)
  clear hK K
  refine pure_ (i := 15) (N := (some 27)) (v := ?_) (a' := ?_) #[true, true, true, true, true, true, true, true, true, true, true, true, true, true, true, true, false, false, false, false, false] rfl rfl (any_of HT_.out (by kernel_rfl)) (fun _ _ _ h => h) (Or.inl ⟨by rfl, ?_⟩) ?_ ?_
  rotate_left
  · intro w'
    go_simp
    with_reducible rfl
  rotate_left
  · simp only [Act.put, List.setIfInBounds_toArray, List.set_cons_zero, List.set_cons_succ, i64_w, i32_w]
    rfl
  refine pure_ (i := 16) (N := (some 28)) (v := ?_) (a' := ?_) #[true, true, true, true, true, true, true, true, true, true, true, true, true, true, true, true, true, false, false, false, false] rfl rfl (any_of HT_.out (by kernel_rfl)) (fun _ _ _ h => h) (Or.inl ⟨by rfl, ?_⟩) ?_ ?_
  rotate_left
  · intro w'
    go_simp
    with_reducible rfl
  rotate_left
  · simp only [Act.put, List.setIfInBounds_toArray, List.set_cons_zero, List.set_cons_succ, i64_w, i32_w]
    rfl
  refine one_ (i := 17) (N := none) #[true, true, true, true, true, true, true, true, true, true, true, true, true, true, true, true, true, true, false, false, false] rfl rfl (one_of HT_.out (by kernel_rfl)) (by decide) (fun K hK => ?_)
  have hcc := HE11.out.c3
  have hff := HE11.out.f 3
  refine skip_ (w1 := ((v10.setCell ⟨w.heap.size + 1, 2, none⟩ (.int .i64 kk)).setCell ⟨w.heap.size + 1, 3, none⟩ (.int .i64 fm))) (by rfl) rfl ?_ ?_
  · go_simp
    try rfl
  have HE12 : Hid (EnS w ((v10.setCell ⟨w.heap.size + 1, 2, none⟩ (.int .i64 kk)).setCell ⟨w.heap.size + 1, 3, none⟩ (.int .i64 fm)) P A c b.length q5 who seq kk fm 0 0 0 0 (.slice none 0 0) 0) := Lib.hid (HE11.out.put hPl 3 (.int .i64 fm) rfl)
  clear hcc hff HE11
  refine hK.out _ _ HE12.out.ptr.c0 (fun hHeld => ?_)
  clear hK K
  refine pure_ (i := 18) (N := (some 29)) (v := ?_) (a' := ?_) #[true, true, true, true, true, true, true, true, true, true, true, true, true, true, true, true, true, true, true, false, false] rfl rfl (any_of HT_.out (by kernel_rfl)) (fun _ _ _ h => h) (Or.inl ⟨by rfl, ?_⟩) ?_ ?_
  rotate_left
  · intro w'
    go_simp
    with_reducible rfl
  rotate_left
  · simp only [Act.put, List.setIfInBounds_toArray, List.set_cons_zero, List.set_cons_succ, i64_w, i32_w]
    rfl
  refine pure_ (i := 19) (N := (some 30)) (v := ?_) (a' := ?_) #[true, true, true, true, true, true, true, true, true, true, true, true, true, true, true, true, true, true, true, true, false] rfl rfl (any_of HT_.out (by kernel_rfl)) (fun _ _ _ h => h) (Or.inl ⟨by rfl, ?_⟩) ?_ ?_
  rotate_left
  · intro w'
    go_simp
    with_reducible rfl
  rotate_left
  · simp only [Act.put, List.setIfInBounds_toArray, List.set_cons_zero, List.set_cons_succ, i64_w, i32_w]
    rfl
  refine one_ (i := 20) (N := none) #[true, true, true, true, true, true, true, true, true, true, true, true, true, true, true, true, true, true, true, true, true] rfl rfl (one_of HT_.out (by kernel_rfl)) (by decide) (fun K hK => ?_)
  have hcc := HE12.out.c4
  have hff := HE12.out.f 4
  refine skip_ (w1 := (((v10.setCell ⟨w.heap.size + 1, 2, none⟩ (.int .i64 kk)).setCell ⟨w.heap.size + 1, 3, none⟩ (.int .i64 fm)).setCell ⟨w.heap.size + 1, 4, none⟩ (.int .i64 tt))) (by rfl) rfl ?_ ?_
  · go_simp
    try rfl
  have HE13 : Hid (EnS w (((v10.setCell ⟨w.heap.size + 1, 2, none⟩ (.int .i64 kk)).setCell ⟨w.heap.size + 1, 3, none⟩ (.int .i64 fm)).setCell ⟨w.heap.size + 1, 4, none⟩ (.int .i64 tt)) P A c b.length q5 who seq kk fm tt 0 0 0 (.slice none 0 0) 0) := Lib.hid (HE12.out.put hPl 4 (.int .i64 tt) rfl)
  clear hcc hff HE12
  refine hK.out _ _ HE13.out.ptr.c0 (fun hHeld => ?_)
  clear hK K
  refine done_ (done_of HT_.out (by kernel_rfl)) ?_
  have hkk : kk = 2 ∨ kk = 3 ∨ kk = 1 ∨ kk = 0 := by omega
  rcases hkk with rfl | rfl | rfl | rfl
  · have hX := HX5.out
    rw [if_pos (by decide)] at hX
    have c2 := HE13.out.c2
    have r0 := HE13.out.ptr.c0
    rcases hres : rnum 2147483647 (b.drop q5) with f | ⟨mk, r⟩
    · rw [hres, bnd_err] at hX
      have HN := Lib.hid (snum_err HE13.out.spot (HG0.out _ HE13.out.grown) hc HBB.out hq5 2147483647 (by decide) (by decide) f hres)
      have HX := Lib.hid hX
      clear hX hres HX5
      go_wp2_with (go_at_call 131; refine HN.out.mono ?_; rintro e w7 ⟨rfl, hg⟩; have HG7 := Lib.hid (HE13.out.grown.trans hg); clear hg)
      exact ⟨rfl, RdP.err HX.out HG7.out⟩
    · obtain ⟨q9, hq9, rfl, hql, hm0, hm1⟩ := rnum_rest HBB.out hq5 hres
      have hN := snum_ok HE13.out.spot (HG0.out _ HE13.out.grown) hc HBB.out hq5 2147483647 (by decide) (by decide) mk _ hres
      rw [hql] at hN
      rw [hres, bnd_ok] at hX
      have HN := Lib.hid hN
      have HX := Lib.hid hX
      clear hX hres HX5 hN
      go_upto_region 8 with (go_at_call 131; refine HN.out.mono ?_; rintro e w7 ⟨rfl, hk, hg⟩; have HE20 := Lib.hid (HE13.out.num hPl hk hg); have f9 := HE20.out.f 9; have c9 := HE20.out.c9; have HE21 := Lib.hid (HE20.out.put hPl 9 (.int .i64 mk) (b0 := who) (b1 := seq) (b2 := 2) (b3 := fm) (b4 := tt) (b5 := 0) (b6 := 0) (b7 := 0) (b9 := mk) (v' := .slice none 0 0) rfl); clear hk hg)
      have e0 := HE21.out.c0
      have e1 := HE21.out.c1
      have e2 := HE21.out.c2
      have e3 := HE21.out.c3
      have e4 := HE21.out.c4
      have e5 := HE21.out.c5
      have e6 := HE21.out.c6
      have e7 := HE21.out.c7
      have e8 := HE21.out.c8
      have e9 := HE21.out.c9
      obtain ⟨w8, hw8⟩ : ∃ w8, w7.setCell ⟨w.heap.size + 1, 9, none⟩ (.int .i64 mk) = w8 := ⟨_, rfl⟩
      rw [hw8] at e0 e1 e2 e3 e4 e5 e6 e7 e8 e9 HE21 ⊢
      have ff := HE21.out.f
      clear hw8 HE20 HN
      go_wp2
      have g0 := HE21.out.put hPl 0 (.int .i64 who) (b0 := who) (b1 := seq) (b2 := 2) (b3 := fm) (b4 := tt) (b5 := 0) (b6 := 0) (b7 := 0) (b9 := mk) (v' := (.slice none 0 0)) rfl
      have g1 := g0.put hPl 1 (.int .i64 seq) (b0 := who) (b1 := seq) (b2 := 2) (b3 := fm) (b4 := tt) (b5 := 0) (b6 := 0) (b7 := 0) (b9 := mk) (v' := (.slice none 0 0)) rfl
      clear g0
      have g2 := g1.put hPl 2 (.int .i64 2) (b0 := who) (b1 := seq) (b2 := 2) (b3 := fm) (b4 := tt) (b5 := 0) (b6 := 0) (b7 := 0) (b9 := mk) (v' := (.slice none 0 0)) rfl
      clear g1
      have g3 := g2.put hPl 3 (.int .i64 fm) (b0 := who) (b1 := seq) (b2 := 2) (b3 := fm) (b4 := tt) (b5 := 0) (b6 := 0) (b7 := 0) (b9 := mk) (v' := (.slice none 0 0)) rfl
      clear g2
      have g4 := g3.put hPl 4 (.int .i64 tt) (b0 := who) (b1 := seq) (b2 := 2) (b3 := fm) (b4 := tt) (b5 := 0) (b6 := 0) (b7 := 0) (b9 := mk) (v' := (.slice none 0 0)) rfl
      clear g3
      have g5 := g4.put hPl 5 (.int .i64 0) (b0 := who) (b1 := seq) (b2 := 2) (b3 := fm) (b4 := tt) (b5 := 0) (b6 := 0) (b7 := 0) (b9 := mk) (v' := (.slice none 0 0)) rfl
      clear g4
      have g6 := g5.put hPl 6 (.int .i64 0) (b0 := who) (b1 := seq) (b2 := 2) (b3 := fm) (b4 := tt) (b5 := 0) (b6 := 0) (b7 := 0) (b9 := mk) (v' := (.slice none 0 0)) rfl
      clear g5
      have g7 := g6.put hPl 7 (.int .i64 0) (b0 := who) (b1 := seq) (b2 := 2) (b3 := fm) (b4 := tt) (b5 := 0) (b6 := 0) (b7 := 0) (b9 := mk) (v' := (.slice none 0 0)) rfl
      clear g6
      have g8 := g7.put hPl 8 (.slice none 0 0) (b0 := who) (b1 := seq) (b2 := 2) (b3 := fm) (b4 := tt) (b5 := 0) (b6 := 0) (b7 := 0) (b9 := mk) (v' := (.slice none 0 0)) rfl
      clear g7
      have g9 := g8.put hPl 9 (.int .i64 mk) (b0 := who) (b1 := seq) (b2 := 2) (b3 := fm) (b4 := tt) (b5 := 0) (b6 := 0) (b7 := 0) (b9 := mk) (v' := (.slice none 0 0)) rfl
      clear g8
      have z0 := g9.c0
      have z1 := g9.c1
      have z2 := g9.c2
      have z3 := g9.c3
      have z4 := g9.c4
      have z5 := g9.c5
      have z6 := g9.c6
      have z7 := g9.c7
      have z8 := g9.c8
      have z9 := g9.c9
      refine bodyPost_ret (v := .agg #[.int .i64 who, .int .i64 seq, .int .i64 2, .int .i64 fm, .int .i64 tt, .int .i64 0, .int .i64 0, .int .i64 0, .slice none 0 0, .int .i64 mk]) (by simp [results, Try.results94, go_sem, z0, z1, z2, z3, z4, z5, z6, z7, z8, z9]) rfl ?_
      exact RdP.ok HX.out g9.grown ⟨_, rfl, Kd.R_nil _ _ _ _ _⟩ g9.spot (by rw [List.length_drop]; omega)
  · have hX := HX5.out
    rw [if_pos (by decide)] at hX
    have c2 := HE13.out.c2
    have r0 := HE13.out.ptr.c0
    rcases hres : rnum 2147483647 (b.drop q5) with f | ⟨mk, r⟩
    · rw [hres, bnd_err] at hX
      have HN := Lib.hid (snum_err HE13.out.spot (HG0.out _ HE13.out.grown) hc HBB.out hq5 2147483647 (by decide) (by decide) f hres)
      have HX := Lib.hid hX
      clear hX hres HX5
      go_wp2_with (go_at_call 131; refine HN.out.mono ?_; rintro e w7 ⟨rfl, hg⟩; have HG7 := Lib.hid (HE13.out.grown.trans hg); clear hg)
      exact ⟨rfl, RdP.err HX.out HG7.out⟩
    · obtain ⟨q9, hq9, rfl, hql, hm0, hm1⟩ := rnum_rest HBB.out hq5 hres
      have hN := snum_ok HE13.out.spot (HG0.out _ HE13.out.grown) hc HBB.out hq5 2147483647 (by decide) (by decide) mk _ hres
      rw [hql] at hN
      rw [hres, bnd_ok] at hX
      have HN := Lib.hid hN
      have HX := Lib.hid hX
      clear hX hres HX5 hN
      go_upto_region 8 with (go_at_call 131; refine HN.out.mono ?_; rintro e w7 ⟨rfl, hk, hg⟩; have HE20 := Lib.hid (HE13.out.num hPl hk hg); have f9 := HE20.out.f 9; have c9 := HE20.out.c9; have HE21 := Lib.hid (HE20.out.put hPl 9 (.int .i64 mk) (b0 := who) (b1 := seq) (b2 := 3) (b3 := fm) (b4 := tt) (b5 := 0) (b6 := 0) (b7 := 0) (b9 := mk) (v' := .slice none 0 0) rfl); clear hk hg)
      have e0 := HE21.out.c0
      have e1 := HE21.out.c1
      have e2 := HE21.out.c2
      have e3 := HE21.out.c3
      have e4 := HE21.out.c4
      have e5 := HE21.out.c5
      have e6 := HE21.out.c6
      have e7 := HE21.out.c7
      have e8 := HE21.out.c8
      have e9 := HE21.out.c9
      obtain ⟨w8, hw8⟩ : ∃ w8, w7.setCell ⟨w.heap.size + 1, 9, none⟩ (.int .i64 mk) = w8 := ⟨_, rfl⟩
      rw [hw8] at e0 e1 e2 e3 e4 e5 e6 e7 e8 e9 HE21 ⊢
      have ff := HE21.out.f
      clear hw8 HE20 HN
      go_wp2
      have g0 := HE21.out.put hPl 0 (.int .i64 who) (b0 := who) (b1 := seq) (b2 := 3) (b3 := fm) (b4 := tt) (b5 := 0) (b6 := 0) (b7 := 0) (b9 := mk) (v' := (.slice none 0 0)) rfl
      have g1 := g0.put hPl 1 (.int .i64 seq) (b0 := who) (b1 := seq) (b2 := 3) (b3 := fm) (b4 := tt) (b5 := 0) (b6 := 0) (b7 := 0) (b9 := mk) (v' := (.slice none 0 0)) rfl
      clear g0
      have g2 := g1.put hPl 2 (.int .i64 3) (b0 := who) (b1 := seq) (b2 := 3) (b3 := fm) (b4 := tt) (b5 := 0) (b6 := 0) (b7 := 0) (b9 := mk) (v' := (.slice none 0 0)) rfl
      clear g1
      have g3 := g2.put hPl 3 (.int .i64 fm) (b0 := who) (b1 := seq) (b2 := 3) (b3 := fm) (b4 := tt) (b5 := 0) (b6 := 0) (b7 := 0) (b9 := mk) (v' := (.slice none 0 0)) rfl
      clear g2
      have g4 := g3.put hPl 4 (.int .i64 tt) (b0 := who) (b1 := seq) (b2 := 3) (b3 := fm) (b4 := tt) (b5 := 0) (b6 := 0) (b7 := 0) (b9 := mk) (v' := (.slice none 0 0)) rfl
      clear g3
      have g5 := g4.put hPl 5 (.int .i64 0) (b0 := who) (b1 := seq) (b2 := 3) (b3 := fm) (b4 := tt) (b5 := 0) (b6 := 0) (b7 := 0) (b9 := mk) (v' := (.slice none 0 0)) rfl
      clear g4
      have g6 := g5.put hPl 6 (.int .i64 0) (b0 := who) (b1 := seq) (b2 := 3) (b3 := fm) (b4 := tt) (b5 := 0) (b6 := 0) (b7 := 0) (b9 := mk) (v' := (.slice none 0 0)) rfl
      clear g5
      have g7 := g6.put hPl 7 (.int .i64 0) (b0 := who) (b1 := seq) (b2 := 3) (b3 := fm) (b4 := tt) (b5 := 0) (b6 := 0) (b7 := 0) (b9 := mk) (v' := (.slice none 0 0)) rfl
      clear g6
      have g8 := g7.put hPl 8 (.slice none 0 0) (b0 := who) (b1 := seq) (b2 := 3) (b3 := fm) (b4 := tt) (b5 := 0) (b6 := 0) (b7 := 0) (b9 := mk) (v' := (.slice none 0 0)) rfl
      clear g7
      have g9 := g8.put hPl 9 (.int .i64 mk) (b0 := who) (b1 := seq) (b2 := 3) (b3 := fm) (b4 := tt) (b5 := 0) (b6 := 0) (b7 := 0) (b9 := mk) (v' := (.slice none 0 0)) rfl
      clear g8
      have z0 := g9.c0
      have z1 := g9.c1
      have z2 := g9.c2
      have z3 := g9.c3
      have z4 := g9.c4
      have z5 := g9.c5
      have z6 := g9.c6
      have z7 := g9.c7
      have z8 := g9.c8
      have z9 := g9.c9
      refine bodyPost_ret (v := .agg #[.int .i64 who, .int .i64 seq, .int .i64 3, .int .i64 fm, .int .i64 tt, .int .i64 0, .int .i64 0, .int .i64 0, .slice none 0 0, .int .i64 mk]) (by simp [results, Try.results94, go_sem, z0, z1, z2, z3, z4, z5, z6, z7, z8, z9]) rfl ?_
      exact RdP.ok HX.out g9.grown ⟨_, rfl, Kd.R_nil _ _ _ _ _⟩ g9.spot (by rw [List.length_drop]; omega)
  · have hX := HX5.out
    rw [if_neg (by decide), if_pos rfl] at hX
    have HX6 := Lib.hid hX
    clear hX HX5
    have c2 := HE13.out.c2
    go_upto_region 10 with (fail)
    clear c2
    have HE14 := Lib.hid (HE13.out.drew hPl)
    refine start_ (n := 21) (S := fun w' => w'.cell? ⟨w.heap.size, 0, none⟩ = some (.pointer (some ⟨P, 0, none⟩))) (ds := []) #[false, false, false, false, false, false, false, false, false, false, false, false, false, false, false, false, false, false, false, false, false] (by kernel_rfl) rfl rfl HE14.out.ptr.c0 (fun hHeld => ?_); refine with_tabW entR10.tab entR10.bits (fun HT_ HW_ => ?_)
    refine pure_ (i := 0) (N := (some 47)) (v := ?_) (a' := ?_) #[true, false, false, false, false, false, false, false, false, false, false, false, false, false, false, false, false, false, false, false, false] rfl rfl (any_of HT_.out (by kernel_rfl)) (fun _ _ _ h => h) (Or.inl ⟨by rfl, ?_⟩) ?_ ?_
    rotate_left
    · intro w'
      go_simp
      with_reducible rfl
    rotate_left
    · simp only [Act.put, List.setIfInBounds_toArray, List.set_cons_zero, List.set_cons_succ, i64_w, i32_w]
      rfl
    refine pure_ (i := 1) (N := (some 48)) (v := ?_) (a' := ?_) #[true, true, false, false, false, false, false, false, false, false, false, false, false, false, false, false, false, false, false, false, false] rfl rfl (any_of HT_.out (by kernel_rfl)) (fun _ _ _ h => h) (Or.inl ⟨by rfl, ?_⟩) ?_ ?_
    rotate_left
    · intro w'
      go_simp
      with_reducible rfl
    rotate_left
    · simp only [Act.put, List.setIfInBounds_toArray, List.set_cons_zero, List.set_cons_succ, i64_w, i32_w]
      rfl
    refine pure_ (i := 2) (N := (some 49)) (v := ?_) (a' := ?_) #[true, true, true, false, false, false, false, false, false, false, false, false, false, false, false, false, false, false, false, false, false] rfl rfl (any_of HT_.out (by kernel_rfl)) (fun _ _ _ h => h) (Or.inl ⟨by rfl, ?_⟩) ?_ ?_
    rotate_left
    · intro w'
      go_simp
      with_reducible rfl
    rotate_left
    · simp only [Act.put, List.setIfInBounds_toArray, List.set_cons_zero, List.set_cons_succ, i64_w, i32_w]
      rfl
    refine pure_ (i := 3) (N := (some 50)) (v := ?_) (a' := ?_) #[true, true, true, true, false, false, false, false, false, false, false, false, false, false, false, false, false, false, false, false, false] rfl rfl (any_of HT_.out (by kernel_rfl)) (fun _ _ _ h => h) (Or.inl ⟨by rfl, ?_⟩) ?_ ?_
    rotate_left
    · intro w'
      go_simp
      with_reducible rfl
    rotate_left
    · simp only [Act.put, List.setIfInBounds_toArray, List.set_cons_zero, List.set_cons_succ, i64_w, i32_w]
      rfl
    refine pure_ (i := 6) (N := (some 53)) (v := ?_) (a' := ?_) #[true, true, true, true, false, false, true, false, false, false, false, false, false, false, false, false, false, false, false, false, false] rfl rfl (any_of HT_.out (by kernel_rfl)) (fun _ _ _ h => h) (Or.inl ⟨by rfl, ?_⟩) ?_ ?_
    rotate_left
    · intro w'
      go_simp
      with_reducible rfl
    rotate_left
    · simp only [Act.put, List.setIfInBounds_toArray, List.set_cons_zero, List.set_cons_succ, i64_w, i32_w]
      rfl
    refine pure_ (i := 9) (N := (some 56)) (v := ?_) (a' := ?_) #[true, true, true, true, false, false, true, false, false, true, false, false, false, false, false, false, false, false, false, false, false] rfl rfl (any_of HT_.out (by kernel_rfl)) (fun _ _ _ h => h) (Or.inl ⟨by rfl, ?_⟩) ?_ ?_
    rotate_left
    · intro w'
      go_simp
      with_reducible rfl
    rotate_left
    · simp only [Act.put, List.setIfInBounds_toArray, List.set_cons_zero, List.set_cons_succ, i64_w, i32_w]
      rfl
    refine take_ (i := 4) (N := (some 51)) (v := ?_) (a' := ?_) #[true, true, true, true, true, false, true, false, false, true, false, false, false, false, false, false, false, false, false, false, false] rfl rfl (take_ofW HT_.out HW_.out (by kernel_rfl)) (fun _ _ _ h => h) (Or.inl ⟨by rfl, ?_⟩) hHeld ?_ ?_
    rotate_left
    · rintro w' s0
      go_simp
      with_reducible rfl
    rotate_left
    · simp only [Act.put, List.setIfInBounds_toArray, List.set_cons_zero, List.set_cons_succ, i64_w, i32_w]
      rfl
    refine take_ (i := 7) (N := (some 54)) (v := ?_) (a' := ?_) #[true, true, true, true, true, false, true, true, false, true, false, false, false, false, false, false, false, false, false, false, false] rfl rfl (take_ofW HT_.out HW_.out (by kernel_rfl)) (fun _ _ _ h => h) (Or.inl ⟨by rfl, ?_⟩) hHeld ?_ ?_
    rotate_left
    · rintro w' s0
      go_simp
      with_reducible rfl
    rotate_left
    · simp only [Act.put, List.setIfInBounds_toArray, List.set_cons_zero, List.set_cons_succ, i64_w, i32_w]
      rfl
    refine take_ (i := 10) (N := (some 57)) (v := ?_) (a' := ?_) #[true, true, true, true, true, false, true, true, false, true, true, false, false, false, false, false, false, false, false, false, false] rfl rfl (take_ofW HT_.out HW_.out (by kernel_rfl)) (fun _ _ _ h => h) (Or.inl ⟨by rfl, ?_⟩) hHeld ?_ ?_
    rotate_left
    · rintro w' s0
      go_simp
      with_reducible rfl
    rotate_left
    · simp only [Act.put, List.setIfInBounds_toArray, List.set_cons_zero, List.set_cons_succ, i64_w, i32_w]
      rfl
    refine one_ (i := 5) (N := (some 52)) #[true, true, true, true, true, true, true, true, false, true, true, false, false, false, false, false, false, false, false, false, false] rfl rfl (one_of HT_.out (by kernel_rfl)) (by decide) (fun K hK => ?_)
    have hX := HX6.out
    rcases hres : rnum 2147483647 (b.drop q5) with f | ⟨gf, r⟩
    · rw [hres, bnd_err] at hX
      refine goesP_ Try.func131 (by kernel_rfl) rfl #[.pointer (some ⟨P, 0, none⟩), .int .i64 2147483647] (by rfl) rfl rfl (by (try simp only [List.map_toArray, List.map_cons, List.map_nil]); first | done | rfl) ?_
      refine (snum_err HE14.out.spot (HG0.out _ HE14.out.grown) hc HBB.out hq5 2147483647 (by decide) (by decide) f hres).mono ?_
      rintro e w' ⟨rfl, hg⟩
      exact .inr ⟨_, rfl, And.intro rfl (RdP.err hX (HE14.out.grown.trans hg))⟩
    obtain ⟨q6, hq6, rfl, hql, hn0gf, hn1gf⟩ := rnum_rest HBB.out hq5 hres
    rw [hres, bnd_ok] at hX
    have HX7 := Lib.hid hX
    refine goesP_ Try.func131 (by kernel_rfl) rfl #[.pointer (some ⟨P, 0, none⟩), .int .i64 2147483647] (by rfl) rfl rfl (by (try simp only [List.map_toArray, List.map_cons, List.map_nil]); first | done | rfl) ?_
    refine (snum_ok HE14.out.spot (HG0.out _ HE14.out.grown) hc HBB.out hq5 2147483647 (by decide) (by decide) gf _ hres).mono ?_
    rintro e v15 ⟨rfl, hk, hg⟩
    rw [hql] at hk
    have HE15 := Lib.hid (HE14.out.num hPl hk hg)
    clear hk hg hres hX hql HX6 HE14
    refine .inl ⟨_, rfl, ?_⟩
    refine hK.out _ _ HE15.out.ptr.c0 (fun hHeld => ?_)
    clear hK K
    refine norm_ (a' := ?_) ?_ ?_
    rotate_left
    · show Act.put _ (some 52) _ = _
      simp only [Act.put, List.setIfInBounds_toArray, List.set_cons_zero, List.set_cons_succ, i64_w, i32_w]
      rfl
    refine one_ (i := 8) (N := (some 55)) #[true, true, true, true, true, true, true, true, true, true, true, false, false, false, false, false, false, false, false, false, false] rfl rfl (one_of HT_.out (by kernel_rfl)) (by decide) (fun K hK => ?_)
    have hX := HX7.out
    rcases hres : rnum 2147483647 (b.drop q6) with f | ⟨gt, r⟩
    · rw [hres, bnd_err] at hX
      refine goesP_ Try.func131 (by kernel_rfl) rfl #[.pointer (some ⟨P, 0, none⟩), .int .i64 2147483647] (by rfl) rfl rfl (by (try simp only [List.map_toArray, List.map_cons, List.map_nil]); first | done | rfl) ?_
      refine (snum_err HE15.out.spot (HG0.out _ HE15.out.grown) hc HBB.out hq6 2147483647 (by decide) (by decide) f hres).mono ?_
      rintro e w' ⟨rfl, hg⟩
      exact .inr ⟨_, rfl, And.intro rfl (RdP.err hX (HE15.out.grown.trans hg))⟩
    obtain ⟨q7, hq7, rfl, hql, hn0gt, hn1gt⟩ := rnum_rest HBB.out hq6 hres
    rw [hres, bnd_ok] at hX
    have HX8 := Lib.hid hX
    refine goesP_ Try.func131 (by kernel_rfl) rfl #[.pointer (some ⟨P, 0, none⟩), .int .i64 2147483647] (by rfl) rfl rfl (by (try simp only [List.map_toArray, List.map_cons, List.map_nil]); first | done | rfl) ?_
    refine (snum_ok HE15.out.spot (HG0.out _ HE15.out.grown) hc HBB.out hq6 2147483647 (by decide) (by decide) gt _ hres).mono ?_
    rintro e v16 ⟨rfl, hk, hg⟩
    rw [hql] at hk
    have HE16 := Lib.hid (HE15.out.num hPl hk hg)
    clear hk hg hres hX hql HX7 HE15
    refine .inl ⟨_, rfl, ?_⟩
    refine hK.out _ _ HE16.out.ptr.c0 (fun hHeld => ?_)
    clear hK K
    refine norm_ (a' := ?_) ?_ ?_
    rotate_left
    · show Act.put _ (some 55) _ = _
      simp only [Act.put, List.setIfInBounds_toArray, List.set_cons_zero, List.set_cons_succ, i64_w, i32_w]
      rfl
    refine one_ (i := 11) (N := (some 58)) #[true, true, true, true, true, true, true, true, true, true, true, true, false, false, false, false, false, false, false, false, false] rfl rfl (one_of HT_.out (by kernel_rfl)) (by decide) (fun K hK => ?_)
    have hX := HX8.out
    rcases hres : rnum 2147483647 (b.drop q7) with f | ⟨ins, r⟩
    · rw [hres, bnd_err] at hX
      refine goesP_ Try.func131 (by kernel_rfl) rfl #[.pointer (some ⟨P, 0, none⟩), .int .i64 2147483647] (by rfl) rfl rfl (by (try simp only [List.map_toArray, List.map_cons, List.map_nil]); first | done | rfl) ?_
      refine (snum_err HE16.out.spot (HG0.out _ HE16.out.grown) hc HBB.out hq7 2147483647 (by decide) (by decide) f hres).mono ?_
      rintro e w' ⟨rfl, hg⟩
      exact .inr ⟨_, rfl, And.intro rfl (RdP.err hX (HE16.out.grown.trans hg))⟩
    obtain ⟨q8, hq8, rfl, hql, hn0ins, hn1ins⟩ := rnum_rest HBB.out hq7 hres
    rw [hres, bnd_ok] at hX
    have HX9 := Lib.hid hX
    refine goesP_ Try.func131 (by kernel_rfl) rfl #[.pointer (some ⟨P, 0, none⟩), .int .i64 2147483647] (by rfl) rfl rfl (by (try simp only [List.map_toArray, List.map_cons, List.map_nil]); first | done | rfl) ?_
    refine (snum_ok HE16.out.spot (HG0.out _ HE16.out.grown) hc HBB.out hq7 2147483647 (by decide) (by decide) ins _ hres).mono ?_
    rintro e v17 ⟨rfl, hk, hg⟩
    rw [hql] at hk
    have HE17 := Lib.hid (HE16.out.num hPl hk hg)
    clear hk hg hres hX hql HX8 HE16
    refine .inl ⟨_, rfl, ?_⟩
    refine hK.out _ _ HE17.out.ptr.c0 (fun hHeld => ?_)
    clear hK K
    refine norm_ (a' := ?_) ?_ ?_
    rotate_left
    · show Act.put _ (some 58) _ = _
      simp only [Act.put, List.setIfInBounds_toArray, List.set_cons_zero, List.set_cons_succ, i64_w, i32_w]
      rfl
    refine pure_ (i := 12) (N := (some 59)) (v := ?_) (a' := ?_) #[true, true, true, true, true, true, true, true, true, true, true, true, true, false, false, false, false, false, false, false, false] rfl rfl (any_of HT_.out (by kernel_rfl)) (fun _ _ _ h => h) (Or.inl ⟨by rfl, ?_⟩) ?_ ?_
    rotate_left
    · intro w'
      go_simp
      with_reducible rfl
    rotate_left
    · simp only [Act.put, List.setIfInBounds_toArray, List.set_cons_zero, List.set_cons_succ, i64_w, i32_w]
      rfl
    refine pure_ (i := 13) (N := (some 60)) (v := ?_) (a' := ?_) #[true, true, true, true, true, true, true, true, true, true, true, true, true, true, false, false, false, false, false, false, false] rfl rfl (any_of HT_.out (by kernel_rfl)) (fun _ _ _ h => h) (Or.inl ⟨by rfl, ?_⟩) ?_ ?_
    rotate_left
    · intro w'
      go_simp
      with_reducible rfl
    rotate_left
    · simp only [Act.put, List.setIfInBounds_toArray, List.set_cons_zero, List.set_cons_succ, i64_w, i32_w]
      rfl
    refine one_ (i := 14) (N := none) #[true, true, true, true, true, true, true, true, true, true, true, true, true, true, true, false, false, false, false, false, false] rfl rfl (one_of HT_.out (by kernel_rfl)) (by decide) (fun K hK => ?_)
    have hcc := HE17.out.c5
    have hff := HE17.out.f 5
    refine skip_ (w1 := (v17.setCell ⟨w.heap.size + 1, 5, none⟩ (.int .i64 gf))) (by rfl) rfl ?_ ?_
    · go_simp
      try rfl
    have HE18 : Hid (EnS w (v17.setCell ⟨w.heap.size + 1, 5, none⟩ (.int .i64 gf)) P A c b.length q8 who seq 1 fm tt gf 0 0 (.slice none 0 0) 0) := Lib.hid (HE17.out.put hPl 5 (.int .i64 gf) rfl)
    clear hcc hff HE17
    refine hK.out _ _ HE18.out.ptr.c0 (fun hHeld => ?_)
    clear hK K
    refine pure_ (i := 15) (N := (some 61)) (v := ?_) (a' := ?_) #[true, true, true, true, true, true, true, true, true, true, true, true, true, true, true, true, false, false, false, false, false] rfl rfl (any_of HT_.out (by kernel_rfl)) (fun _ _ _ h => h) (Or.inl ⟨by rfl, ?_⟩) ?_ ?_
    rotate_left
    · intro w'
      go_simp
      with_reducible rfl
    rotate_left
    · simp only [Act.put, List.setIfInBounds_toArray, List.set_cons_zero, List.set_cons_succ, i64_w, i32_w]
      rfl
    refine pure_ (i := 16) (N := (some 62)) (v := ?_) (a' := ?_) #[true, true, true, true, true, true, true, true, true, true, true, true, true, true, true, true, true, false, false, false, false] rfl rfl (any_of HT_.out (by kernel_rfl)) (fun _ _ _ h => h) (Or.inl ⟨by rfl, ?_⟩) ?_ ?_
    rotate_left
    · intro w'
      go_simp
      with_reducible rfl
    rotate_left
    · simp only [Act.put, List.setIfInBounds_toArray, List.set_cons_zero, List.set_cons_succ, i64_w, i32_w]
      rfl
    refine one_ (i := 17) (N := none) #[true, true, true, true, true, true, true, true, true, true, true, true, true, true, true, true, true, true, false, false, false] rfl rfl (one_of HT_.out (by kernel_rfl)) (by decide) (fun K hK => ?_)
    have hcc := HE18.out.c6
    have hff := HE18.out.f 6
    refine skip_ (w1 := ((v17.setCell ⟨w.heap.size + 1, 5, none⟩ (.int .i64 gf)).setCell ⟨w.heap.size + 1, 6, none⟩ (.int .i64 gt))) (by rfl) rfl ?_ ?_
    · go_simp
      try rfl
    have HE19 : Hid (EnS w ((v17.setCell ⟨w.heap.size + 1, 5, none⟩ (.int .i64 gf)).setCell ⟨w.heap.size + 1, 6, none⟩ (.int .i64 gt)) P A c b.length q8 who seq 1 fm tt gf gt 0 (.slice none 0 0) 0) := Lib.hid (HE18.out.put hPl 6 (.int .i64 gt) rfl)
    clear hcc hff HE18
    refine hK.out _ _ HE19.out.ptr.c0 (fun hHeld => ?_)
    clear hK K
    refine pure_ (i := 18) (N := (some 63)) (v := ?_) (a' := ?_) #[true, true, true, true, true, true, true, true, true, true, true, true, true, true, true, true, true, true, true, false, false] rfl rfl (any_of HT_.out (by kernel_rfl)) (fun _ _ _ h => h) (Or.inl ⟨by rfl, ?_⟩) ?_ ?_
    rotate_left
    · intro w'
      go_simp
      with_reducible rfl
    rotate_left
    · simp only [Act.put, List.setIfInBounds_toArray, List.set_cons_zero, List.set_cons_succ, i64_w, i32_w]
      rfl
    refine pure_ (i := 19) (N := (some 64)) (v := ?_) (a' := ?_) #[true, true, true, true, true, true, true, true, true, true, true, true, true, true, true, true, true, true, true, true, false] rfl rfl (any_of HT_.out (by kernel_rfl)) (fun _ _ _ h => h) (Or.inl ⟨by rfl, ?_⟩) ?_ ?_
    rotate_left
    · intro w'
      go_simp
      with_reducible rfl
    rotate_left
    · simp only [Act.put, List.setIfInBounds_toArray, List.set_cons_zero, List.set_cons_succ, i64_w, i32_w]
      rfl
    refine one_ (i := 20) (N := none) #[true, true, true, true, true, true, true, true, true, true, true, true, true, true, true, true, true, true, true, true, true] rfl rfl (one_of HT_.out (by kernel_rfl)) (by decide) (fun K hK => ?_)
    have hcc := HE19.out.c7
    have hff := HE19.out.f 7
    refine skip_ (w1 := (((v17.setCell ⟨w.heap.size + 1, 5, none⟩ (.int .i64 gf)).setCell ⟨w.heap.size + 1, 6, none⟩ (.int .i64 gt)).setCell ⟨w.heap.size + 1, 7, none⟩ (.int .i64 ins))) (by rfl) rfl ?_ ?_
    · go_simp
      try rfl
    have HE20 : Hid (EnS w (((v17.setCell ⟨w.heap.size + 1, 5, none⟩ (.int .i64 gf)).setCell ⟨w.heap.size + 1, 6, none⟩ (.int .i64 gt)).setCell ⟨w.heap.size + 1, 7, none⟩ (.int .i64 ins)) P A c b.length q8 who seq 1 fm tt gf gt ins (.slice none 0 0) 0) := Lib.hid (HE19.out.put hPl 7 (.int .i64 ins) rfl)
    clear hcc hff HE19
    refine hK.out _ _ HE20.out.ptr.c0 (fun hHeld => ?_)
    clear hK K
    refine done_ (done_of HT_.out (by kernel_rfl)) ?_
    go_upto_region 11 with (fail)
    have hX := HX9.out
    have hd := sdoc_is HC.out hc HBB.out (below_of_grown HB0.out HE20.out.grown hP) hP HE20.out.spot hq8
    have hEs := HE20.out.size
    obtain ⟨W11, hW11⟩ : ∃ W11, (((v17.setCell ⟨w.heap.size + 1, 5, none⟩ (.int .i64 gf)).setCell ⟨w.heap.size + 1, 6, none⟩ (.int .i64 gt)).setCell ⟨w.heap.size + 1, 7, none⟩ (.int .i64 ins)) = W11 := ⟨_, rfl⟩
    rw [hW11] at hd hEs HE20 ⊢
    have r0 := HE20.out.ptr.c0
    skip
    clear hW11
    rcases hres : rdoc (b.drop q8) with f | ⟨sl, r⟩
    · rw [hres, bnd_err] at hX
      rw [hres] at hd
      have HD := Lib.hid hd
      have HX := Lib.hid hX
      clear hX hres hd HX9
      go_wp2_with (go_at_call 125; refine HD.out.mono ?_; rintro e w17 h17; obtain ⟨rfl, hg⟩ := h17.err_inv; have HG17 := Lib.hid (HE20.out.grown.trans hg); clear h17 hg)
      exact ⟨rfl, RdP.err HX.out HG17.out⟩
    · rw [hres, bnd_ok] at hX
      rw [hres] at hd
      have HD := Lib.hid hd
      have HX := Lib.hid hX
      clear hX hres hd HX9
      go_upto_region 12 with (go_at_call 125; refine HD.out.mono ?_; rintro e w17 h17; obtain ⟨u, rfl, ht, hk, hg⟩ := h17.ok_inv; obtain ⟨Au, cu, rfl, _, _⟩ := Kd.R_reads ht; have HE30 := Lib.hid (HE20.out.num hPl hk hg); have f8 := HE30.out.f 8; have c8 := HE30.out.c8; have HE31 := Lib.hid (HE30.out.put hPl 8 (.slice Au sl.length cu) (b0 := who) (b1 := seq) (b2 := 1) (b3 := fm) (b4 := tt) (b5 := gf) (b6 := gt) (b7 := ins) (b9 := 0) (v' := .slice Au sl.length cu) rfl); have HLT : Hid (w.heap.size + 1 < W11.heap.size) := Lib.hid (by omega); have HT := Lib.hid (ht.set (E := w.heap.size + 1) HLT.out 8 (.slice Au sl.length cu)); clear h17 hk hg ht)
      have e0 := HE31.out.c0
      have e1 := HE31.out.c1
      have e2 := HE31.out.c2
      have e3 := HE31.out.c3
      have e4 := HE31.out.c4
      have e5 := HE31.out.c5
      have e6 := HE31.out.c6
      have e7 := HE31.out.c7
      have e8 := HE31.out.c8
      have e9 := HE31.out.c9
      obtain ⟨w18, hw18⟩ : ∃ w18, w17.setCell ⟨w.heap.size + 1, 8, none⟩ (.slice Au sl.length cu) = w18 := ⟨_, rfl⟩
      rw [hw18] at e0 e1 e2 e3 e4 e5 e6 e7 e8 e9 HE31 HT ⊢
      have ff := HE31.out.f
      clear hw18 HE30 HD
      go_wp2
      have g0 := HE31.out.put hPl 0 (.int .i64 who) (b0 := who) (b1 := seq) (b2 := 1) (b3 := fm) (b4 := tt) (b5 := gf) (b6 := gt) (b7 := ins) (b9 := 0) (v' := (.slice Au sl.length cu)) rfl
      have g1 := g0.put hPl 1 (.int .i64 seq) (b0 := who) (b1 := seq) (b2 := 1) (b3 := fm) (b4 := tt) (b5 := gf) (b6 := gt) (b7 := ins) (b9 := 0) (v' := (.slice Au sl.length cu)) rfl
      clear g0
      have g2 := g1.put hPl 2 (.int .i64 1) (b0 := who) (b1 := seq) (b2 := 1) (b3 := fm) (b4 := tt) (b5 := gf) (b6 := gt) (b7 := ins) (b9 := 0) (v' := (.slice Au sl.length cu)) rfl
      clear g1
      have g3 := g2.put hPl 3 (.int .i64 fm) (b0 := who) (b1 := seq) (b2 := 1) (b3 := fm) (b4 := tt) (b5 := gf) (b6 := gt) (b7 := ins) (b9 := 0) (v' := (.slice Au sl.length cu)) rfl
      clear g2
      have g4 := g3.put hPl 4 (.int .i64 tt) (b0 := who) (b1 := seq) (b2 := 1) (b3 := fm) (b4 := tt) (b5 := gf) (b6 := gt) (b7 := ins) (b9 := 0) (v' := (.slice Au sl.length cu)) rfl
      clear g3
      have g5 := g4.put hPl 5 (.int .i64 gf) (b0 := who) (b1 := seq) (b2 := 1) (b3 := fm) (b4 := tt) (b5 := gf) (b6 := gt) (b7 := ins) (b9 := 0) (v' := (.slice Au sl.length cu)) rfl
      clear g4
      have g6 := g5.put hPl 6 (.int .i64 gt) (b0 := who) (b1 := seq) (b2 := 1) (b3 := fm) (b4 := tt) (b5 := gf) (b6 := gt) (b7 := ins) (b9 := 0) (v' := (.slice Au sl.length cu)) rfl
      clear g5
      have g7 := g6.put hPl 7 (.int .i64 ins) (b0 := who) (b1 := seq) (b2 := 1) (b3 := fm) (b4 := tt) (b5 := gf) (b6 := gt) (b7 := ins) (b9 := 0) (v' := (.slice Au sl.length cu)) rfl
      clear g6
      have g8 := g7.put hPl 8 (.slice Au sl.length cu) (b0 := who) (b1 := seq) (b2 := 1) (b3 := fm) (b4 := tt) (b5 := gf) (b6 := gt) (b7 := ins) (b9 := 0) (v' := (.slice Au sl.length cu)) rfl
      clear g7
      have g9 := g8.put hPl 9 (.int .i64 0) (b0 := who) (b1 := seq) (b2 := 1) (b3 := fm) (b4 := tt) (b5 := gf) (b6 := gt) (b7 := ins) (b9 := 0) (v' := (.slice Au sl.length cu)) rfl
      clear g8
      have t0 := HT.out
      replace t0 := t0.set (E := w.heap.size + 1) HLT.out 0 (.int .i64 who)
      replace t0 := t0.set (E := w.heap.size + 1) HLT.out 1 (.int .i64 seq)
      replace t0 := t0.set (E := w.heap.size + 1) HLT.out 2 (.int .i64 1)
      replace t0 := t0.set (E := w.heap.size + 1) HLT.out 3 (.int .i64 fm)
      replace t0 := t0.set (E := w.heap.size + 1) HLT.out 4 (.int .i64 tt)
      replace t0 := t0.set (E := w.heap.size + 1) HLT.out 5 (.int .i64 gf)
      replace t0 := t0.set (E := w.heap.size + 1) HLT.out 6 (.int .i64 gt)
      replace t0 := t0.set (E := w.heap.size + 1) HLT.out 7 (.int .i64 ins)
      replace t0 := t0.set (E := w.heap.size + 1) HLT.out 8 (.slice Au sl.length cu)
      replace t0 := t0.set (E := w.heap.size + 1) HLT.out 9 (.int .i64 0)
      have z0 := g9.c0
      have z1 := g9.c1
      have z2 := g9.c2
      have z3 := g9.c3
      have z4 := g9.c4
      have z5 := g9.c5
      have z6 := g9.c6
      have z7 := g9.c7
      have z8 := g9.c8
      have z9 := g9.c9
      refine bodyPost_ret (v := .agg #[.int .i64 who, .int .i64 seq, .int .i64 1, .int .i64 fm, .int .i64 tt, .int .i64 gf, .int .i64 gt, .int .i64 ins, .slice Au sl.length cu, .int .i64 0]) (by simp [results, Try.results94, go_sem, z0, z1, z2, z3, z4, z5, z6, z7, z8, z9]) rfl ?_
      exact RdP.ok HX.out g9.grown ⟨_, rfl, Kd.R_lower t0 (by have := HLT.out; omega)⟩ g9.spot rfl
  · have hX := HX5.out
    rw [if_neg (by decide), if_neg (by decide)] at hX
    have HX6 := Lib.hid hX
    clear hX HX5
    have hX := HX6.out
    have hd := sdoc_is HC.out hc HBB.out (below_of_grown HB0.out HE13.out.grown hP) hP HE13.out.spot hq5
    have hEs := HE13.out.size
    obtain ⟨W11, hW11⟩ : ∃ W11, (((v10.setCell ⟨w.heap.size + 1, 2, none⟩ (.int .i64 0)).setCell ⟨w.heap.size + 1, 3, none⟩ (.int .i64 fm)).setCell ⟨w.heap.size + 1, 4, none⟩ (.int .i64 tt)) = W11 := ⟨_, rfl⟩
    rw [hW11] at hd hEs HE13 ⊢
    have r0 := HE13.out.ptr.c0
    have c2 := HE13.out.c2
    clear hW11
    rcases hres : rdoc (b.drop q5) with f | ⟨sl, r⟩
    · rw [hres, bnd_err] at hX
      rw [hres] at hd
      have HD := Lib.hid hd
      have HX := Lib.hid hX
      clear hX hres hd HX6
      go_wp2_with (go_at_call 125; refine HD.out.mono ?_; rintro e w17 h17; obtain ⟨rfl, hg⟩ := h17.err_inv; have HG17 := Lib.hid (HE13.out.grown.trans hg); clear h17 hg)
      exact ⟨rfl, RdP.err HX.out HG17.out⟩
    · rw [hres, bnd_ok] at hX
      rw [hres] at hd
      have HD := Lib.hid hd
      have HX := Lib.hid hX
      clear hX hres hd HX6
      go_upto_region 12 with (go_at_call 125; refine HD.out.mono ?_; rintro e w17 h17; obtain ⟨u, rfl, ht, hk, hg⟩ := h17.ok_inv; obtain ⟨Au, cu, rfl, _, _⟩ := Kd.R_reads ht; have HE30 := Lib.hid (HE13.out.num hPl hk hg); have f8 := HE30.out.f 8; have c8 := HE30.out.c8; have HE31 := Lib.hid (HE30.out.put hPl 8 (.slice Au sl.length cu) (b0 := who) (b1 := seq) (b2 := 0) (b3 := fm) (b4 := tt) (b5 := 0) (b6 := 0) (b7 := 0) (b9 := 0) (v' := .slice Au sl.length cu) rfl); have HLT : Hid (w.heap.size + 1 < W11.heap.size) := Lib.hid (by omega); have HT := Lib.hid (ht.set (E := w.heap.size + 1) HLT.out 8 (.slice Au sl.length cu)); clear h17 hk hg ht)
      have e0 := HE31.out.c0
      have e1 := HE31.out.c1
      have e2 := HE31.out.c2
      have e3 := HE31.out.c3
      have e4 := HE31.out.c4
      have e5 := HE31.out.c5
      have e6 := HE31.out.c6
      have e7 := HE31.out.c7
      have e8 := HE31.out.c8
      have e9 := HE31.out.c9
      obtain ⟨w18, hw18⟩ : ∃ w18, w17.setCell ⟨w.heap.size + 1, 8, none⟩ (.slice Au sl.length cu) = w18 := ⟨_, rfl⟩
      rw [hw18] at e0 e1 e2 e3 e4 e5 e6 e7 e8 e9 HE31 HT ⊢
      have ff := HE31.out.f
      clear hw18 HE30 HD
      go_wp2
      have g0 := HE31.out.put hPl 0 (.int .i64 who) (b0 := who) (b1 := seq) (b2 := 0) (b3 := fm) (b4 := tt) (b5 := 0) (b6 := 0) (b7 := 0) (b9 := 0) (v' := (.slice Au sl.length cu)) rfl
      have g1 := g0.put hPl 1 (.int .i64 seq) (b0 := who) (b1 := seq) (b2 := 0) (b3 := fm) (b4 := tt) (b5 := 0) (b6 := 0) (b7 := 0) (b9 := 0) (v' := (.slice Au sl.length cu)) rfl
      clear g0
      have g2 := g1.put hPl 2 (.int .i64 0) (b0 := who) (b1 := seq) (b2 := 0) (b3 := fm) (b4 := tt) (b5 := 0) (b6 := 0) (b7 := 0) (b9 := 0) (v' := (.slice Au sl.length cu)) rfl
      clear g1
      have g3 := g2.put hPl 3 (.int .i64 fm) (b0 := who) (b1 := seq) (b2 := 0) (b3 := fm) (b4 := tt) (b5 := 0) (b6 := 0) (b7 := 0) (b9 := 0) (v' := (.slice Au sl.length cu)) rfl
      clear g2
      have g4 := g3.put hPl 4 (.int .i64 tt) (b0 := who) (b1 := seq) (b2 := 0) (b3 := fm) (b4 := tt) (b5 := 0) (b6 := 0) (b7 := 0) (b9 := 0) (v' := (.slice Au sl.length cu)) rfl
      clear g3
      have g5 := g4.put hPl 5 (.int .i64 0) (b0 := who) (b1 := seq) (b2 := 0) (b3 := fm) (b4 := tt) (b5 := 0) (b6 := 0) (b7 := 0) (b9 := 0) (v' := (.slice Au sl.length cu)) rfl
      clear g4
      have g6 := g5.put hPl 6 (.int .i64 0) (b0 := who) (b1 := seq) (b2 := 0) (b3 := fm) (b4 := tt) (b5 := 0) (b6 := 0) (b7 := 0) (b9 := 0) (v' := (.slice Au sl.length cu)) rfl
      clear g5
      have g7 := g6.put hPl 7 (.int .i64 0) (b0 := who) (b1 := seq) (b2 := 0) (b3 := fm) (b4 := tt) (b5 := 0) (b6 := 0) (b7 := 0) (b9 := 0) (v' := (.slice Au sl.length cu)) rfl
      clear g6
      have g8 := g7.put hPl 8 (.slice Au sl.length cu) (b0 := who) (b1 := seq) (b2 := 0) (b3 := fm) (b4 := tt) (b5 := 0) (b6 := 0) (b7 := 0) (b9 := 0) (v' := (.slice Au sl.length cu)) rfl
      clear g7
      have g9 := g8.put hPl 9 (.int .i64 0) (b0 := who) (b1 := seq) (b2 := 0) (b3 := fm) (b4 := tt) (b5 := 0) (b6 := 0) (b7 := 0) (b9 := 0) (v' := (.slice Au sl.length cu)) rfl
      clear g8
      have t0 := HT.out
      replace t0 := t0.set (E := w.heap.size + 1) HLT.out 0 (.int .i64 who)
      replace t0 := t0.set (E := w.heap.size + 1) HLT.out 1 (.int .i64 seq)
      replace t0 := t0.set (E := w.heap.size + 1) HLT.out 2 (.int .i64 0)
      replace t0 := t0.set (E := w.heap.size + 1) HLT.out 3 (.int .i64 fm)
      replace t0 := t0.set (E := w.heap.size + 1) HLT.out 4 (.int .i64 tt)
      replace t0 := t0.set (E := w.heap.size + 1) HLT.out 5 (.int .i64 0)
      replace t0 := t0.set (E := w.heap.size + 1) HLT.out 6 (.int .i64 0)
      replace t0 := t0.set (E := w.heap.size + 1) HLT.out 7 (.int .i64 0)
      replace t0 := t0.set (E := w.heap.size + 1) HLT.out 8 (.slice Au sl.length cu)
      replace t0 := t0.set (E := w.heap.size + 1) HLT.out 9 (.int .i64 0)
      have z0 := g9.c0
      have z1 := g9.c1
      have z2 := g9.c2
      have z3 := g9.c3
      have z4 := g9.c4
      have z5 := g9.c5
      have z6 := g9.c6
      have z7 := g9.c7
      have z8 := g9.c8
      have z9 := g9.c9
      refine bodyPost_ret (v := .agg #[.int .i64 who, .int .i64 seq, .int .i64 0, .int .i64 fm, .int .i64 tt, .int .i64 0, .int .i64 0, .int .i64 0, .slice Au sl.length cu, .int .i64 0]) (by simp [results, Try.results94, go_sem, z0, z1, z2, z3, z4, z5, z6, z7, z8, z9]) rfl ?_
      exact RdP.ok HX.out g9.grown ⟨_, rfl, Kd.R_lower t0 (by have := HLT.out; omega)⟩ g9.spot rfl
end Go.Proofs.Ytmbnjgnmblgjoaa.Man
