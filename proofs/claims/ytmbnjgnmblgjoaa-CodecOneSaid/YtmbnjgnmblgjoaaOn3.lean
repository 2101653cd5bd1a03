-- Laid together by a program of this session (wip/tools/shake.py). Not trusted: Lean checks it.
import Derived.Test.YtmbnjgnmblgjoaaOn2

-- ReadMsg
section
/- codec's reader: a message. Printed by wip/tools/gen_readmsg.py. -/

namespace Go.Proofs.Ytmbnjgnmblgjoaa.Man
open Go.RowKit Go.Proofs.YtmbnjgnmblgjoaaW.PrintWords Go.Proofs.YtmbnjgnmblgjoaaW.PrintLast Go.Proofs.YtmbnjgnmblgjoaaW.PrintMore
set_option linter.unusedVariables false
set_option linter.unusedSimpArgs false
set_option maxRecDepth 100000

/-- A row of entries of the call's own. -/
abbrev ER (w : World) (base : Nat) (v : Value) (xs : List K.S26) : Prop := Kd.R K.k26 26 w base (fun _ => True) v xs
theorem info_ent : (Try.prog.info? 26).map (fun i => (i.zero, i.size, i.bytes)) = some (some (.agg #[.int .i64 0, .int .i64 0, .int .i64 0, .int .i64 0, .int .i64 0, .int .i64 0, .int .i64 0, .int .i64 0, .slice none 0 0, .int .i64 0]), 10, 96) := by kernel_rfl
theorem ER.grown {w w1 : World} {base P : Nat} {v : Value} {xs : List K.S26} (h : ER w base v xs) (hg : w.grownBy w1 (some P)) (hP : P < base) : ER w1 base v xs :=
  Kd.R_mono (Kd.R_grown (Kd.R_bound h) hg (fun j hj e => by have h1 := hj.2.1; have h2 := Option.some.inj e; omega)) (fun _ _ => trivial)
theorem ER.set {w : World} {base E : Nat} {v : Value} {xs : List K.S26} (h : ER w base v xs) (hE : E < base) (k : Nat) (u : Value) : ER (w.setCell ⟨E, k, none⟩ u) base v xs := ER.grown h (grownBy_set w E k u (World.grownBy.refl w _)) hE
theorem ER.C {w : World} {base : Nat} {v : Value} {xs : List K.S26} (h : ER w base v xs) : ∃ A c, v = .slice A xs.length c ∧ xs.length ≤ c ∧ Kd.C K.k26 w A xs.length xs := Kd.R_reads h
theorem ER.lt {w : World} {base j : Nat} {v : Value} {xs : List K.S26} (h : ER w base v xs) (hj : v.ownBlock = some j) : j < w.heap.size := ((Kd.R_bound h).1 j hj).2.2.1
theorem TR.ge {w : World} {base j : Nat} {v : Value} {xs : List K.S111} (h : TR w base v xs) (hj : v.ownBlock = some j) : base ≤ j := ((Kd.R_bound h).1 j hj).2.1
theorem TR.tight {w : World} {base : Nat} {v : Value} {xs : List K.S111} (h : TR w base v xs) : Kd.R K.k111 111 w base (fun j => some j = v.ownBlock) v xs := Kd.R_tight rfl h
theorem rent_rest {b : List Int} {p : Nat} {x : K.S26} {r : List Int} (hB : areBytesN b = true) (hp : p ≤ b.length) (h : rent (b.drop p) = .ok (x, r)) : ∃ q, q ≤ b.length ∧ r = b.drop q ∧ b.length - r.length = q := by
  have h1 := (rent_inv (areBytesN_drop hB p) h).1
  have hl := congrArg List.length h1
  rw [List.length_drop, List.length_append] at hl
  have e : b = (b.take p ++ entryB x) ++ r := by rw [List.append_assoc, ← h1, List.take_append_drop]
  refine ⟨b.length - r.length, by omega, ?_, rfl⟩
  have e2 : b.length - r.length = (b.take p ++ entryB x).length := by rw [List.length_append, List.length_take]; omega
  rw [e2]
  have e3 := congrArg (List.drop (b.take p ++ entryB x).length) e
  rw [List.drop_left] at e3
  exact e3.symm
theorem RdP.ok_inv' {α : Type} {w : World} {P : Nat} {A : Option Addr} {c q : Nat} {b : List Int} {ret : α → Value → World → Prop} {x : α} {r : List Int} {e : Ending} {w' : World} (h : RdP w P A c b ret (.ok (x, r)) e w') (hq : b.length - r.length = q := by first | assumption | rfl) : ∃ v, e = .returned v ∧ ret x v w' ∧ SpotAt w' P A c b.length q ∧ w.grownBy w' (some P) := by
  obtain ⟨hg, v, he, hv, hs⟩ := h
  subst hq
  exact ⟨v, he, hv, hs, hg⟩

/-- What is older than w stays, but two blocks. -/
structure Kp2 (w W : World) (P V : Nat) : Prop where
  os : W.os = w.os
  tape : W.tape = w.tape
  output : W.output = w.output
  size : w.heap.size ≤ W.heap.size
  block : ∀ j, j < w.heap.size → j ≠ P → j ≠ V → W.heap[j]? = w.heap[j]?
theorem Kp2.refl (w : World) (P V : Nat) : Kp2 w w P V := ⟨rfl, rfl, rfl, Nat.le_refl _, fun _ _ _ _ => rfl⟩
theorem Kp2.num {w W W' : World} {P V : Nat} (h : Kp2 w W P V) (hg : W.grownBy W' (some P)) : Kp2 w W' P V :=
  ⟨hg.os.trans h.os, hg.tape.trans h.tape, hg.output.trans h.output, Nat.le_trans h.size hg.size, fun j hj h1 h2 => (hg.block j (Nat.lt_of_lt_of_le hj h.size) (fun e => h1 (Option.some.inj e))).trans (h.block j hj h1 h2)⟩
theorem Kp2.below {w W W' : World} {P V m : Nat} (h : Kp2 w W P V) (hb : Below m W W') (hm : w.heap.size ≤ m) : Kp2 w W' P V :=
  ⟨hb.os.trans h.os, hb.tape.trans h.tape, hb.output.trans h.output, Nat.le_trans h.size hb.size, fun j hj h1 h2 => (hb.block j (by omega)).trans (h.block j hj h1 h2)⟩
theorem Kp2.set {w W : World} {P V : Nat} (h : Kp2 w W P V) (k : Nat) (u : Value) : Kp2 w (W.setCell ⟨V, k, none⟩ u) P V :=
  ⟨h.os, h.tape, h.output, by simpa [World.setCell] using h.size, fun j hj h1 h2 => (heap_set_ne W V k j u h2).trans (h.block j hj h1 h2)⟩
theorem Kp2.old {w0 w W : World} {P V : Nat} (h : Kp2 w W P V) (hb : Below w0.heap.size w0 w) (hP : w0.heap.size ≤ P) (hV : w0.heap.size ≤ V) : Below w0.heap.size w0 W :=
  ⟨h.os.trans hb.os, h.tape.trans hb.tape, h.output.trans hb.output, Nat.le_trans hb.size h.size, fun j hj => (h.block j (Nat.lt_of_lt_of_le hj hb.size) (by omega) (by omega)).trans (hb.block j hj)⟩
/-- A message's block. -/
def MsgC (w : World) (V : Nat) (a0 a1 a2 : Int) (v : Value) : Prop := w.heap[V]? = some (.cells #[.int .i64 a0, .int .i64 a1, .int .i64 a2, v] 71 (0, 0))
theorem MsgC.lt {w : World} {V : Nat} {a0 a1 a2 : Int} {v : Value} (h : MsgC w V a0 a1 a2 v) : V < w.heap.size := (Array.getElem?_eq_some_iff.1 h).1
theorem MsgC.cells {w : World} {V : Nat} {a0 a1 a2 : Int} {v : Value} (h : MsgC w V a0 a1 a2 v) : w.cell? ⟨V, 0, none⟩ = some (.int .i64 a0) ∧ w.cell? ⟨V, 1, none⟩ = some (.int .i64 a1) ∧ w.cell? ⟨V, 2, none⟩ = some (.int .i64 a2) ∧ w.cell? ⟨V, 3, none⟩ = some v := by simp [World.cell?, show w.heap[V]? = _ from h]
theorem MsgC.f {w : World} {V : Nat} {a0 a1 a2 : Int} {v : Value} (h : MsgC w V a0 a1 a2 v) (i : Nat) : w.frozen? ⟨V, i, none⟩ = false := by simp [World.frozen?, show w.heap[V]? = _ from h]
theorem MsgC.put {w : World} {V : Nat} {a0 a1 a2 b0 b1 b2 : Int} {v v' : Value} (h : MsgC w V a0 a1 a2 v) (i : Nat) (u : Value) (he : (#[.int .i64 a0, .int .i64 a1, .int .i64 a2, v] : Array Value).setIfInBounds i u = #[.int .i64 b0, .int .i64 b1, .int .i64 b2, v']) : MsgC (w.setCell ⟨V, i, none⟩ u) V b0 b1 b2 v' := by
  unfold MsgC World.setCell
  unfold MsgC at h
  have he2 := congrArg Array.toList he
  simp [Array.getElem?_modify, h]
  simpa using he2
/-- What a reading of a message stands at. -/
structure MgS (w W : World) (P V : Nat) (A : Option Addr) (c n q : Nat) (a0 a1 a2 : Int) (v : Value) : Prop where
  spot : SpotAt W P A c n q
  ptr : PtrAt W w.heap.size P
  msg : MsgC W V a0 a1 a2 v
  kp : Kp2 w W P V
section
variable {w W W' : World} {P V c n q q' m : Nat} {A : Option Addr} {a0 a1 a2 b0 b1 b2 : Int} {v v' : Value}
theorem MgS.num (h : MgS w W P V A c n q a0 a1 a2 v) (hP : P < w.heap.size) (hVP : V ≠ P) (hk : SpotAt W' P A c n q') (hg : W.grownBy W' (some P)) : MgS w W' P V A c n q' a0 a1 a2 v :=
  ⟨hk, h.ptr.grown hg hP, (hg.block _ h.msg.lt (fun e => hVP (Option.some.inj e))).trans h.msg, h.kp.num hg⟩
theorem MgS.below (h : MgS w W P V A c n q a0 a1 a2 v) (hP : P < w.heap.size) (hVP : V ≠ P) (hb : Below W.heap.size W W') : MgS w W' P V A c n q a0 a1 a2 v :=
  h.num hP hVP (h.spot.below hb h.spot.lt) (grown_of_below hb _)
theorem MgS.drew (h : MgS w W P V A c n q a0 a1 a2 v) (hP : P < w.heap.size) (hVP : V ≠ P) : MgS w W.drew P V A c n q a0 a1 a2 v := h.below hP hVP (below_drew1 (Below.refl _ _))
theorem MgS.onB (h : MgS w W P V A c n q a0 a1 a2 v) (hP : P < w.heap.size) (hV : V < w.heap.size) (hb : Below (w.heap.size + 1) W W') : MgS w W' P V A c n q a0 a1 a2 v :=
  ⟨(hb.block _ (by omega)).trans h.spot, (hb.block _ (by omega)).trans h.ptr, (hb.block _ (by omega)).trans h.msg, h.kp.below hb (Nat.le_succ _)⟩
theorem MgS.f (h : MgS w W P V A c n q a0 a1 a2 v) (i : Nat) : W.frozen? ⟨V, i, none⟩ = false := h.msg.f i
theorem MgS.put (h : MgS w W P V A c n q a0 a1 a2 v) (hVP : V ≠ P) (hV : V < w.heap.size) (i : Nat) (u : Value) (he : (#[.int .i64 a0, .int .i64 a1, .int .i64 a2, v] : Array Value).setIfInBounds i u = #[.int .i64 b0, .int .i64 b1, .int .i64 b2, v']) : MgS w (W.setCell ⟨V, i, none⟩ u) P V A c n q b0 b1 b2 v' :=
  ⟨(heap_set_ne W V i P u (Ne.symm hVP)).trans h.spot, (heap_set_ne W V i _ u (by omega)).trans h.ptr, h.msg.put i u he, h.kp.set i u⟩
theorem MgS.c0 (h : MgS w W P V A c n q a0 a1 a2 v) : W.cell? ⟨V, 0, none⟩ = some (.int .i64 a0) := h.msg.cells.1
theorem MgS.c1 (h : MgS w W P V A c n q a0 a1 a2 v) : W.cell? ⟨V, 1, none⟩ = some (.int .i64 a1) := h.msg.cells.2.1
theorem MgS.c2 (h : MgS w W P V A c n q a0 a1 a2 v) : W.cell? ⟨V, 2, none⟩ = some (.int .i64 a2) := h.msg.cells.2.2.1
theorem MgS.c3 (h : MgS w W P V A c n q a0 a1 a2 v) : W.cell? ⟨V, 3, none⟩ = some v := h.msg.cells.2.2.2
end
/-- What the reading of a message leaves. -/
def MgP (w : World) (P V : Nat) (A : Option Addr) (c : Nat) (b : List Int) (res : Rd MsgL) (e : Ending) (w' : World) : Prop :=
  Kp2 w w' P V ∧ match res with
  | .error f => e = .panicked (errCh f)
  | .ok (m, r) => e = .returned (.tuple #[]) ∧ ∃ v, MsgC w' V m.k m.who m.ver v ∧ ER w' w.heap.size v m.l ∧ SpotAt w' P A c b.length (b.length - r.length)
theorem MgP.err {w : World} {P V : Nat} {A : Option Addr} {c : Nat} {b : List Int} {res : Rd MsgL} {f : Int} {w' : World} (hr : res = .error f) (hk : Kp2 w w' P V) : MgP w P V A c b res (.panicked (errCh f)) w' := by
  subst hr
  exact ⟨hk, rfl⟩
theorem MgP.ok {w w' : World} {P V q : Nat} {A : Option Addr} {c : Nat} {b : List Int} {res : Rd MsgL} {k who ver : Int} {xs : List K.S26} {r : List Int} {v : Value} (hr : res = .ok (⟨k, who, ver, xs⟩, r)) (h : MgS w w' P V A c b.length q k who ver v) (hl : ER w' w.heap.size v xs) (hq : b.length - r.length = q) : MgP w P V A c b res (.returned (.tuple #[])) w' := by
  subst hr
  subst hq
  exact ⟨h.kp, rfl, v, h.msg, hl, h.spot⟩
def msgR1.T : Bool × List (List Nat × List Nat) := (true, [([], []), ([0], [0]), ([1], [1]), ([], []), ([3], [3]), ([4, 2], [4]), ([], []), ([6], [6]), ([7, 5], [7]), ([0, 1, 2, 5, 8], []), ([9, 2, 8, 0, 1, 2, 5, 8], [2, 9]), ([0, 1, 2, 3, 4, 5, 8, 9, 10], []), ([11, 5, 10, 0, 1, 2, 3, 4, 5, 8, 9, 10], [5, 11]), ([0, 1, 2, 3, 4, 5, 6, 7, 8, 9, 10, 11, 12], []), ([13, 8, 12, 0, 1, 2, 3, 4, 5, 6, 7, 8, 9, 10, 11, 12], [8, 13])])
def msgR1.B : List Nat := [0, 1, 3, 0, 8, 31, 0, 64, 255, 511, 1023, 2047, 4095, 8191, 16383]
theorem msgR1.tab : rtab .any (opsOf Try.f130 1) = msgR1.T := by kernel_rfl
theorem msgR1.bits : waitsOk msgR1.T.2 msgR1.B = true := by kernel_rfl
def msgR4.T : Bool × List (List Nat × List Nat) := (true, [([], []), ([0], [0]), ([], []), ([2], [2]), ([3], [3]), ([1, 4, 3], [1, 4]), ([0, 1, 2, 3, 4, 5], []), ([6, 5, 5, 0, 1, 2, 3, 4, 5], [5, 6])])
def msgR4.B : List Nat := [0, 1, 0, 4, 12, 31, 63, 127]
theorem msgR4.tab : rtab .any (opsOf Try.f130 4) = msgR4.T := by kernel_rfl
theorem msgR4.bits : waitsOk msgR4.T.2 msgR4.B = true := by kernel_rfl
set_option maxHeartbeats 16000000 in
theorem smsg_is {w0 w : World} {P V c p : Nat} {A : Option Addr} {b : List Int} (hC : Kd.C (Kd.int .u8) w0 A b.length b) (hc : b.length ≤ c) (hB : areBytesN b = true) (hb : Below w0.heap.size w0 w) (hP : w0.heap.size ≤ P) (hV0 : w0.heap.size ≤ V) (hp : p ≤ b.length) (k : SpotAt w P A c b.length p) (hVP : V ≠ P) (hm : MsgC w V 0 0 0 (.slice none 0 0)) :
    Calls Try.prog 130 #[.agg #[.pointer (some ⟨P, 0, none⟩)], .pointer (some ⟨V, 0, none⟩)] w (MgP w P V A c b (rmsg (b.drop p))) := by
  have hPl := k.lt
  have hVl := hm.lt
  obtain ⟨w1, hw1⟩ : ∃ w1, w1 = w.alloc (.cells #[.pointer (some ⟨P, 0, none⟩)] 140) := ⟨_, rfl⟩
  have hb1 : Below w.heap.size w w1 := by rw [hw1]; exact (Below.refl _ _).alloc (Nat.le_refl _) _
  have hE1 : MgS w w1 P V A c b.length p 0 0 0 (.slice none 0 0) := ⟨k.below hb1 hPl, by rw [hw1]; exact World.alloc_heap_new w _, (hb1.block _ hVl).trans hm, (Kp2.refl w P V).below hb1 (Nat.le_refl _)⟩
  have HG0 := Lib.hid (fun (W : World) (hk : Kp2 w W P V) => Kd.C_below hC (hk.old hb hP hV0))
  have HG1 := Lib.hid (fun (W : World) (hk : Kp2 w W P V) => hk.old hb hP hV0)
  have HBB := Lib.hid hB
  have HC := Lib.hid hC
  obtain ⟨X, hX⟩ : ∃ X, rmsg (b.drop p) = X := ⟨_, rfl⟩
  rw [hX]
  unfold rmsg most at hX
  have HX0 := Lib.hid hX.symm
  have HE1 := Lib.hid (hE1.drew hPl hVP)
  have HW1 := Lib.hid hw1
  clear hC hB hb k hX hb1 hE1 hm
  go_enter Try.func130, Try.ntmps130
  go_upto_region 1 with (fail)
  rw [← HW1.out]
  clear hw1
  refine start_ (n := 15) (S := fun w' => w'.cell? ⟨w.heap.size, 0, none⟩ = some (.pointer (some ⟨P, 0, none⟩))) (ds := []) #[false, false, false, false, false, false, false, false, false, false, false, false, false, false, false] (by kernel_rfl) rfl rfl HE1.out.ptr.c0 (fun hHeld => ?_); refine with_tabW msgR1.tab msgR1.bits (fun HT_ HW_ => ?_)
  refine pure_ (i := 0) (N := (some 3)) (v := ?_) (a' := ?_) #[true, false, false, false, false, false, false, false, false, false, false, false, false, false, false] rfl rfl (any_of HT_.out (by kernel_rfl)) (fun _ _ _ h => h) (Or.inl ⟨by rfl, ?_⟩) ?_ ?_
  rotate_left
  · intro w'
    go_simp
    with_reducible rfl
  rotate_left
  · simp only [Act.put, List.setIfInBounds_toArray, List.set_cons_zero, List.set_cons_succ, i64_w, i32_w]
    rfl
  refine pure_ (i := 3) (N := (some 6)) (v := ?_) (a' := ?_) #[true, false, false, true, false, false, false, false, false, false, false, false, false, false, false] rfl rfl (any_of HT_.out (by kernel_rfl)) (fun _ _ _ h => h) (Or.inl ⟨by rfl, ?_⟩) ?_ ?_
  rotate_left
  · intro w'
    go_simp
    with_reducible rfl
  rotate_left
  · simp only [Act.put, List.setIfInBounds_toArray, List.set_cons_zero, List.set_cons_succ, i64_w, i32_w]
    rfl
  refine pure_ (i := 6) (N := (some 9)) (v := ?_) (a' := ?_) #[true, false, false, true, false, false, true, false, false, false, false, false, false, false, false] rfl rfl (any_of HT_.out (by kernel_rfl)) (fun _ _ _ h => h) (Or.inl ⟨by rfl, ?_⟩) ?_ ?_
  rotate_left
  · intro w'
    go_simp
    with_reducible rfl
  rotate_left
  · simp only [Act.put, List.setIfInBounds_toArray, List.set_cons_zero, List.set_cons_succ, i64_w, i32_w]
    rfl
  refine take_ (i := 1) (N := (some 4)) (v := ?_) (a' := ?_) #[true, true, false, true, false, false, true, false, false, false, false, false, false, false, false] rfl rfl (take_ofW HT_.out HW_.out (by kernel_rfl)) (fun _ _ _ h => h) (Or.inl ⟨by rfl, ?_⟩) hHeld ?_ ?_
  rotate_left
  · rintro w' s0
    go_simp
    with_reducible rfl
  rotate_left
  · simp only [Act.put, List.setIfInBounds_toArray, List.set_cons_zero, List.set_cons_succ, i64_w, i32_w]
    rfl
  refine take_ (i := 4) (N := (some 7)) (v := ?_) (a' := ?_) #[true, true, false, true, true, false, true, false, false, false, false, false, false, false, false] rfl rfl (take_ofW HT_.out HW_.out (by kernel_rfl)) (fun _ _ _ h => h) (Or.inl ⟨by rfl, ?_⟩) hHeld ?_ ?_
  rotate_left
  · rintro w' s0
    go_simp
    with_reducible rfl
  rotate_left
  · simp only [Act.put, List.setIfInBounds_toArray, List.set_cons_zero, List.set_cons_succ, i64_w, i32_w]
    rfl
  refine take_ (i := 7) (N := (some 10)) (v := ?_) (a' := ?_) #[true, true, false, true, true, false, true, true, false, false, false, false, false, false, false] rfl rfl (take_ofW HT_.out HW_.out (by kernel_rfl)) (fun _ _ _ h => h) (Or.inl ⟨by rfl, ?_⟩) hHeld ?_ ?_
  rotate_left
  · rintro w' s0
    go_simp
    with_reducible rfl
  rotate_left
  · simp only [Act.put, List.setIfInBounds_toArray, List.set_cons_zero, List.set_cons_succ, i64_w, i32_w]
    rfl
  refine one_ (i := 2) (N := (some 5)) #[true, true, true, true, true, false, true, true, false, false, false, false, false, false, false] rfl rfl (one_of HT_.out (by kernel_rfl)) (by decide) (fun K hK => ?_)
  have hX := HX0.out
  rcases hres : rnum 2147483647 (b.drop p) with f | ⟨k, r⟩
  · rw [hres, bnd_err] at hX
    refine goesP_ Try.func131 (by kernel_rfl) rfl #[.pointer (some ⟨P, 0, none⟩), .int .i64 2147483647] (by rfl) rfl rfl (by (try simp only [List.map_toArray, List.map_cons, List.map_nil]); first | done | rfl) ?_
    refine (snum_err HE1.out.spot (HG0.out _ HE1.out.kp) hc HBB.out hp 2147483647 (by decide) (by decide) f hres).mono ?_
    rintro e w' ⟨rfl, hg⟩
    exact .inr ⟨_, rfl, And.intro rfl (MgP.err hX (HE1.out.kp.num hg))⟩
  obtain ⟨q1, hq1, rfl, hql, hn0k, hn1k⟩ := rnum_rest HBB.out hp hres
  rw [hres, bnd_ok] at hX
  have HX1 := Lib.hid hX
  refine goesP_ Try.func131 (by kernel_rfl) rfl #[.pointer (some ⟨P, 0, none⟩), .int .i64 2147483647] (by rfl) rfl rfl (by (try simp only [List.map_toArray, List.map_cons, List.map_nil]); first | done | rfl) ?_
  refine (snum_ok HE1.out.spot (HG0.out _ HE1.out.kp) hc HBB.out hp 2147483647 (by decide) (by decide) k _ hres).mono ?_
  rintro e v2 ⟨rfl, hk, hg⟩
  rw [hql] at hk
  have HE2 := Lib.hid (HE1.out.num hPl hVP hk hg)
  clear hk hg hres hX hql HX0 HE1
  refine .inl ⟨_, rfl, ?_⟩
  refine hK.out _ _ HE2.out.ptr.c0 (fun hHeld => ?_)
  clear hK K
  refine norm_ (a' := ?_) ?_ ?_
  rotate_left
  · show Act.put _ (some 5) _ = _
    simp only [Act.put, List.setIfInBounds_toArray, List.set_cons_zero, List.set_cons_succ, i64_w, i32_w]
    rfl
  refine one_ (i := 5) (N := (some 8)) #[true, true, true, true, true, true, true, true, false, false, false, false, false, false, false] rfl rfl (one_of HT_.out (by kernel_rfl)) (by decide) (fun K hK => ?_)
  have hX := HX1.out
  rcases hres : rnum 2147483647 (b.drop q1) with f | ⟨who, r⟩
  · rw [hres, bnd_err] at hX
    refine goesP_ Try.func131 (by kernel_rfl) rfl #[.pointer (some ⟨P, 0, none⟩), .int .i64 2147483647] (by rfl) rfl rfl (by (try simp only [List.map_toArray, List.map_cons, List.map_nil]); first | done | rfl) ?_
    refine (snum_err HE2.out.spot (HG0.out _ HE2.out.kp) hc HBB.out hq1 2147483647 (by decide) (by decide) f hres).mono ?_
    rintro e w' ⟨rfl, hg⟩
    exact .inr ⟨_, rfl, And.intro rfl (MgP.err hX (HE2.out.kp.num hg))⟩
  obtain ⟨q2, hq2, rfl, hql, hn0who, hn1who⟩ := rnum_rest HBB.out hq1 hres
  rw [hres, bnd_ok] at hX
  have HX2 := Lib.hid hX
  refine goesP_ Try.func131 (by kernel_rfl) rfl #[.pointer (some ⟨P, 0, none⟩), .int .i64 2147483647] (by rfl) rfl rfl (by (try simp only [List.map_toArray, List.map_cons, List.map_nil]); first | done | rfl) ?_
  refine (snum_ok HE2.out.spot (HG0.out _ HE2.out.kp) hc HBB.out hq1 2147483647 (by decide) (by decide) who _ hres).mono ?_
  rintro e v3 ⟨rfl, hk, hg⟩
  rw [hql] at hk
  have HE3 := Lib.hid (HE2.out.num hPl hVP hk hg)
  clear hk hg hres hX hql HX1 HE2
  refine .inl ⟨_, rfl, ?_⟩
  refine hK.out _ _ HE3.out.ptr.c0 (fun hHeld => ?_)
  clear hK K
  refine norm_ (a' := ?_) ?_ ?_
  rotate_left
  · show Act.put _ (some 8) _ = _
    simp only [Act.put, List.setIfInBounds_toArray, List.set_cons_zero, List.set_cons_succ, i64_w, i32_w]
    rfl
  refine one_ (i := 8) (N := (some 11)) #[true, true, true, true, true, true, true, true, true, false, false, false, false, false, false] rfl rfl (one_of HT_.out (by kernel_rfl)) (by decide) (fun K hK => ?_)
  have hX := HX2.out
  rcases hres : rnum 2147483647 (b.drop q2) with f | ⟨ver, r⟩
  · rw [hres, bnd_err] at hX
    refine goesP_ Try.func131 (by kernel_rfl) rfl #[.pointer (some ⟨P, 0, none⟩), .int .i64 2147483647] (by rfl) rfl rfl (by (try simp only [List.map_toArray, List.map_cons, List.map_nil]); first | done | rfl) ?_
    refine (snum_err HE3.out.spot (HG0.out _ HE3.out.kp) hc HBB.out hq2 2147483647 (by decide) (by decide) f hres).mono ?_
    rintro e w' ⟨rfl, hg⟩
    exact .inr ⟨_, rfl, And.intro rfl (MgP.err hX (HE3.out.kp.num hg))⟩
  obtain ⟨q3, hq3, rfl, hql, hn0ver, hn1ver⟩ := rnum_rest HBB.out hq2 hres
  rw [hres, bnd_ok] at hX
  have HX3 := Lib.hid hX
  refine goesP_ Try.func131 (by kernel_rfl) rfl #[.pointer (some ⟨P, 0, none⟩), .int .i64 2147483647] (by rfl) rfl rfl (by (try simp only [List.map_toArray, List.map_cons, List.map_nil]); first | done | rfl) ?_
  refine (snum_ok HE3.out.spot (HG0.out _ HE3.out.kp) hc HBB.out hq2 2147483647 (by decide) (by decide) ver _ hres).mono ?_
  rintro e v4 ⟨rfl, hk, hg⟩
  rw [hql] at hk
  have HE4 := Lib.hid (HE3.out.num hPl hVP hk hg)
  clear hk hg hres hX hql HX2 HE3
  refine .inl ⟨_, rfl, ?_⟩
  refine hK.out _ _ HE4.out.ptr.c0 (fun hHeld => ?_)
  clear hK K
  refine norm_ (a' := ?_) ?_ ?_
  rotate_left
  · show Act.put _ (some 11) _ = _
    simp only [Act.put, List.setIfInBounds_toArray, List.set_cons_zero, List.set_cons_succ, i64_w, i32_w]
    rfl
  refine pure_ (i := 9) (N := (some 12)) (v := ?_) (a' := ?_) #[true, true, true, true, true, true, true, true, true, true, false, false, false, false, false] rfl rfl (any_of HT_.out (by kernel_rfl)) (fun _ _ _ h => h) (Or.inl ⟨by rfl, ?_⟩) ?_ ?_
  rotate_left
  · intro w'
    go_simp
    with_reducible rfl
  rotate_left
  · simp only [Act.put, List.setIfInBounds_toArray, List.set_cons_zero, List.set_cons_succ, i64_w, i32_w]
    rfl
  refine one_ (i := 10) (N := none) #[true, true, true, true, true, true, true, true, true, true, true, false, false, false, false] rfl rfl (one_of HT_.out (by kernel_rfl)) (by decide) (fun K hK => ?_)
  have hcc := HE4.out.c0
  have hff := HE4.out.f 0
  refine skip_ (w1 := (v4.setCell ⟨V, 0, none⟩ (.int .i64 k))) (by rfl) rfl ?_ ?_
  · go_simp
    try rfl
  have HE5 : Hid (MgS w (v4.setCell ⟨V, 0, none⟩ (.int .i64 k)) P V A c b.length q3 k 0 0 (.slice none 0 0)) := Lib.hid (HE4.out.put hVP hVl 0 (.int .i64 k) rfl)
  clear hcc hff HE4
  refine hK.out _ _ HE5.out.ptr.c0 (fun hHeld => ?_)
  clear hK K
  refine pure_ (i := 11) (N := (some 13)) (v := ?_) (a' := ?_) #[true, true, true, true, true, true, true, true, true, true, true, true, false, false, false] rfl rfl (any_of HT_.out (by kernel_rfl)) (fun _ _ _ h => h) (Or.inl ⟨by rfl, ?_⟩) ?_ ?_
  rotate_left
  · intro w'
    go_simp
    with_reducible rfl
  rotate_left
  · simp only [Act.put, List.setIfInBounds_toArray, List.set_cons_zero, List.set_cons_succ, i64_w, i32_w]
    rfl
  refine one_ (i := 12) (N := none) #[true, true, true, true, true, true, true, true, true, true, true, true, true, false, false] rfl rfl (one_of HT_.out (by kernel_rfl)) (by decide) (fun K hK => ?_)
  have hcc := HE5.out.c1
  have hff := HE5.out.f 1
  refine skip_ (w1 := ((v4.setCell ⟨V, 0, none⟩ (.int .i64 k)).setCell ⟨V, 1, none⟩ (.int .i64 who))) (by rfl) rfl ?_ ?_
  · go_simp
    try rfl
  have HE6 : Hid (MgS w ((v4.setCell ⟨V, 0, none⟩ (.int .i64 k)).setCell ⟨V, 1, none⟩ (.int .i64 who)) P V A c b.length q3 k who 0 (.slice none 0 0)) := Lib.hid (HE5.out.put hVP hVl 1 (.int .i64 who) rfl)
  clear hcc hff HE5
  refine hK.out _ _ HE6.out.ptr.c0 (fun hHeld => ?_)
  clear hK K
  refine pure_ (i := 13) (N := (some 14)) (v := ?_) (a' := ?_) #[true, true, true, true, true, true, true, true, true, true, true, true, true, true, false] rfl rfl (any_of HT_.out (by kernel_rfl)) (fun _ _ _ h => h) (Or.inl ⟨by rfl, ?_⟩) ?_ ?_
  rotate_left
  · intro w'
    go_simp
    with_reducible rfl
  rotate_left
  · simp only [Act.put, List.setIfInBounds_toArray, List.set_cons_zero, List.set_cons_succ, i64_w, i32_w]
    rfl
  refine one_ (i := 14) (N := none) #[true, true, true, true, true, true, true, true, true, true, true, true, true, true, true] rfl rfl (one_of HT_.out (by kernel_rfl)) (by decide) (fun K hK => ?_)
  have hcc := HE6.out.c2
  have hff := HE6.out.f 2
  refine skip_ (w1 := (((v4.setCell ⟨V, 0, none⟩ (.int .i64 k)).setCell ⟨V, 1, none⟩ (.int .i64 who)).setCell ⟨V, 2, none⟩ (.int .i64 ver))) (by rfl) rfl ?_ ?_
  · go_simp
    try rfl
  have HE7 : Hid (MgS w (((v4.setCell ⟨V, 0, none⟩ (.int .i64 k)).setCell ⟨V, 1, none⟩ (.int .i64 who)).setCell ⟨V, 2, none⟩ (.int .i64 ver)) P V A c b.length q3 k who ver (.slice none 0 0)) := Lib.hid (HE6.out.put hVP hVl 2 (.int .i64 ver) rfl)
  clear hcc hff HE6
  refine hK.out _ _ HE7.out.ptr.c0 (fun hHeld => ?_)
  clear hK K
  refine done_ (done_of HT_.out (by kernel_rfl)) ?_
  obtain ⟨w2, hw2⟩ : ∃ w2, (((v4.setCell ⟨V, 0, none⟩ (.int .i64 k)).setCell ⟨V, 1, none⟩ (.int .i64 who)).setCell ⟨V, 2, none⟩ (.int .i64 ver)) = w2 := ⟨_, rfl⟩
  rw [hw2] at HE7 ⊢
  clear hw2
  have r0 := HE7.out.ptr.c0
  have hX := HX3.out
  rcases hres : rnum 1024 (b.drop q3) with f | ⟨n, r⟩
  · rw [hres, bnd_err] at hX
    have HN := Lib.hid (snum_err HE7.out.spot (HG0.out _ HE7.out.kp) hc HBB.out hq3 1024 (by decide) (by decide) f hres)
    have HX := Lib.hid hX
    clear hX hres HX3
    go_wp2_with (go_at_call 131; refine HN.out.mono ?_; rintro e w3 ⟨rfl, hg⟩; have HK3 := Lib.hid (HE7.out.kp.num hg); clear hg)
    exact ⟨rfl, MgP.err HX.out HK3.out⟩
  · obtain ⟨q9, hq9, rfl, hql, hn0, hn1⟩ := rnum_rest HBB.out hq3 hres
    have hN := snum_ok HE7.out.spot (HG0.out _ HE7.out.kp) hc HBB.out hq3 1024 (by decide) (by decide) n _ hres
    rw [hql] at hN
    rw [hres, bnd_ok] at hX
    obtain ⟨N, rfl⟩ : ∃ N : Nat, n = (N : Int) := ⟨n.toNat, by omega⟩
    rw [Int.toNat_natCast] at hX
    have HN := Lib.hid hN
    have HX := Lib.hid hX
    clear hX hres HX3 hN
    go_wp2_with (go_at_call 131; refine HN.out.mono ?_; rintro e w3 ⟨rfl, hk, hg⟩; have HE30 := Lib.hid (HE7.out.num hPl hVP hk hg); clear hk hg)
    go_loopg [18] N (fun g s18 wr => ∃ (i q1 : Nat) (v : Value) (ys : List K.S26), s18 = .int .i64 i ∧ i ≤ N ∧ g = N - i ∧ q1 ≤ b.length ∧ ys.length = i ∧ Hid (X = bnd (bnd (rents (N - i) (b.drop q1)) fun zs l => .ok (ys ++ zs, l)) fun xs l => .ok (⟨k, who, ver, xs⟩, l)) ∧ Hid (MgS w wr P V A c b.length q1 k who ver v) ∧ Hid (ER wr (w.heap.size + 1) v ys))
    case atStart => exact ⟨0, q9, _, [], rfl, Nat.zero_le _, rfl, hq9, rfl, Lib.hid (by
      rw [HX.out, Nat.sub_zero]
      rcases rents N (b.drop q9) with f | ⟨zs, l⟩
      · rfl
      · rfl), HE30, Lib.hid (Kd.R_nil _ _ _ _ _)⟩
    case round =>
      clear HX HE30 HN hql hq9 HE7 r0
      obtain ⟨i, q1, v, ys, rfl, hi, hg, hq1, hyl, HX, HE, HED0⟩ := hrel
      by_cases hlt : i < N
      · obtain ⟨d, hd⟩ : ∃ d, N - i = d + 1 := ⟨N - i - 1, by omega⟩
        have hd2 : N - (i + 1) = d := by omega
        have HD := Lib.hid (HE.out.drew hPl hVP)
        have HED := Lib.hid (ER.grown HED0.out (grown_of_below (below_drew1 (Below.refl wr.heap.size wr)) (some P)) (by omega))
        have hcall := sent_is HC.out hc HBB.out (HG1.out _ HD.out.kp) hP HD.out.spot hq1
        have HRZ : Hid (w.heap.size + 1 ≤ wr.drew.heap.size) := Lib.hid HD.out.ptr.lt
        go_upto_region 4 with (fail)
        refine start_ (n := 8) (S := fun w' => w'.cell? ⟨w.heap.size, 0, none⟩ = some (.pointer (some ⟨P, 0, none⟩)) ∧ w'.cell? ⟨V, 3, none⟩ = some v) (ds := [7]) #[false, false, false, false, false, false, false, false] (by kernel_rfl) rfl rfl ⟨HD.out.ptr.c0, HD.out.c3⟩ (fun hHeld => ?_); refine with_tabW msgR4.tab msgR4.bits (fun HT_ HW_ => ?_)
        refine pure_ (i := 0) (N := (some 20)) (v := ?_) (a' := ?_) #[true, false, false, false, false, false, false, false] rfl rfl (any_of HT_.out (by kernel_rfl)) (fun _ _ _ h => h) (Or.inl ⟨by rfl, ?_⟩) ?_ ?_
        rotate_left
        · intro w'
          go_simp
          with_reducible rfl
        rotate_left
        · simp only [Act.put, List.setIfInBounds_toArray, List.set_cons_zero, List.set_cons_succ, i64_w, i32_w]
          rfl
        refine take_ (i := 1) (N := (some 21)) (v := ?_) (a' := ?_) #[true, true, false, false, false, false, false, false] rfl rfl (take_ofW HT_.out HW_.out (by kernel_rfl)) (fun _ _ _ h => h) (Or.inl ⟨by rfl, ?_⟩) hHeld ?_ ?_
        rotate_left
        · rintro w' ⟨s0, s1⟩
          go_simp
          with_reducible rfl
        rotate_left
        · simp only [Act.put, List.setIfInBounds_toArray, List.set_cons_zero, List.set_cons_succ, i64_w, i32_w]
          rfl
        refine take_ (i := 2) (N := (some 22)) (v := ?_) (a' := ?_) #[true, true, true, false, false, false, false, false] rfl rfl (take_ofW HT_.out HW_.out (by kernel_rfl)) (fun _ _ _ h => h) (Or.inl ⟨by rfl, ?_⟩) hHeld ?_ ?_
        rotate_left
        · rintro w' ⟨s0, s1⟩
          go_simp
          with_reducible rfl
        rotate_left
        · simp only [Act.put, List.setIfInBounds_toArray, List.set_cons_zero, List.set_cons_succ, i64_w, i32_w]
          rfl
        refine one_ (i := 3) (N := (some 23)) #[true, true, true, true, false, false, false, false] rfl rfl (one_of HT_.out (by kernel_rfl)) (by decide) (fun K hK => ?_)
        have hX := HX.out
        rw [hd, rents] at hX
        rcases hres : rent (b.drop q1) with f | ⟨x, r⟩
        · rw [hres, bnd_err, bnd_err, bnd_err] at hX
          rw [hres] at hcall
          refine goesP_ Try.func94 (by kernel_rfl) rfl #[.agg #[.pointer (some ⟨P, 0, none⟩)]] (by rfl) rfl rfl (by (try simp only [List.map_toArray, List.map_cons, List.map_nil]); first | done | rfl) ?_
          refine hcall.mono ?_
          intro e w' h1
          obtain ⟨rfl, hg⟩ := h1.err_inv
          exact .inr ⟨_, rfl, And.intro rfl (MgP.err hX (HD.out.kp.num hg))⟩
        rw [hres, bnd_ok] at hX
        rw [hres] at hcall
        obtain ⟨q2, hq2, rfl, hql⟩ := rent_rest HBB.out hq1 hres
        have HXN : Hid (X = bnd (bnd (rents (N - (i + 1)) (b.drop q2)) fun zs l => .ok ((ys ++ [x]) ++ zs, l)) fun xs l => .ok (⟨k, who, ver, xs⟩, l)) := Lib.hid (by rw [hd2, ← bnd_snoc]; exact hX)
        refine goesP_ Try.func94 (by kernel_rfl) rfl #[.agg #[.pointer (some ⟨P, 0, none⟩)]] (by rfl) rfl rfl (by (try simp only [List.map_toArray, List.map_cons, List.map_nil]); first | done | rfl) ?_
        refine hcall.mono ?_
        intro e w3 h1
        obtain ⟨_, rfl, ⟨u, rfl, ht⟩, hk, hg⟩ := h1.ok_inv'
        obtain ⟨Au, cu, rfl, _, _⟩ := ht.C
        have HE3 := Lib.hid (HD.out.num hPl hVP hk hg)
        have HT3 := Lib.hid ht
        have HL3 := Lib.hid (ER.grown HED.out hg (by omega))
        have HZ3 := Lib.hid hg.size
        clear hres hX hcall hk hg ht h1
        refine .inl ⟨_, rfl, ?_⟩
        refine hK.out _ _ ⟨HE3.out.ptr.c0, HE3.out.c3⟩ (fun hHeld => ?_)
        clear hK K
        refine norm_ (a' := ?_) ?_ ?_
        rotate_left
        · show Act.put _ (some 23) _ = _
          simp only [Act.put, List.setIfInBounds_toArray, List.set_cons_zero, List.set_cons_succ, i64_w, i32_w]
          rfl
        refine one_ (i := 4) (N := (some 24)) #[true, true, true, true, true, false, false, false] rfl rfl (one_of HT_.out (by kernel_rfl)) (by decide) (fun K hK => ?_)
        refine value_ (w1 := w3.alloc (.cells #[.int .i64 x.f0, .int .i64 x.f1, .int .i64 x.f2.f0, .int .i64 x.f2.f1, .int .i64 x.f2.f2, .int .i64 x.f2.f3, .int .i64 x.f2.f4, .int .i64 x.f2.f5, .slice Au x.f2.f6.length cu, .int .i64 x.f2.f7] 26)) (v := .slice (some ⟨w3.heap.size, 0, none⟩) 1 1) (by rfl) rfl ?_ ?_
        · go_simp
          try rfl
        have hbx : Below w3.heap.size w3 (w3.alloc (.cells #[.int .i64 x.f0, .int .i64 x.f1, .int .i64 x.f2.f0, .int .i64 x.f2.f1, .int .i64 x.f2.f2, .int .i64 x.f2.f3, .int .i64 x.f2.f4, .int .i64 x.f2.f5, .slice Au x.f2.f6.length cu, .int .i64 x.f2.f7] 26)) := (Below.refl _ _).alloc (Nat.le_refl _) _
        have HE4 := Lib.hid (HE3.out.below hPl hVP hbx)
        clear hbx
        refine hK.out _ _ ⟨HE4.out.ptr.c0, HE4.out.c3⟩ (fun hHeld => ?_)
        clear hK K
        refine norm_ (a' := ?_) ?_ ?_
        rotate_left
        · show Act.put _ (some 24) _ = _
          simp only [Act.put, List.setIfInBounds_toArray, List.set_cons_zero, List.set_cons_succ, i64_w, i32_w]
          rfl
        refine one_ (i := 5) (N := (some 25)) #[true, true, true, true, true, true, false, false] rfl rfl (one_of HT_.out (by kernel_rfl)) (by decide) (fun K hK => ?_)
        refine Kd.R_append_step Go.Proofs.Ytmbnjgnmblgjoaa.K.k26 (w0 := w3) (W := w3) (w.heap.size + 1) (by rfl) (.tmp 21) (.tmp 24) 69 26 (.agg #[.int .i64 0, .int .i64 0, .int .i64 0, .int .i64 0, .int .i64 0, .int .i64 0, .int .i64 0, .int .i64 0, .slice none 0 0, .int .i64 0]) 96 rfl Try.underlying69 info_ent rfl (by decide) (by decide) v ys x [.int .i64 x.f0, .int .i64 x.f1, .int .i64 x.f2.f0, .int .i64 x.f2.f1, .int .i64 x.f2.f2, .int .i64 x.f2.f3, .int .i64 x.f2.f4, .int .i64 x.f2.f5, .slice Au x.f2.f6.length cu, .int .i64 x.f2.f7] (fun _ => True) (fun j => some j = (Value.slice Au x.f2.f6.length cu).ownBlock) rfl rfl (Go.Proofs.Ytmbnjgnmblgjoaa.K.k26_mkM _ _ _ _ (TR.tight (Kd.R_lower HT3.out (by have := HRZ.out; omega)))) ?_ (fun _ _ => trivial) HL3.out (Below.refl _ _) (by have := HZ3.out; have := HRZ.out; omega) (by omega) ?_
        · intro j hj
          refine ⟨trivial, fun e => ?_⟩
          have h1 := ER.lt HED.out e.symm
          have h2 := TR.ge HT3.out hj.symm
          omega
        intro v4 w4 hr4 hb4 hg4 hat4
        obtain ⟨zs, hzs⟩ : ∃ zs, ys ++ [x] = zs := ⟨_, rfl⟩
        rw [hzs] at hr4 HXN
        have hzl : zs.length = i + 1 := by rw [← hzs, List.length_append, hyl]; rfl
        obtain ⟨A5, k5, rfl, _, _⟩ := ER.C hr4
        have HZL := Lib.hid hzl
        clear hzs hzl
        have HE5 := Lib.hid (HE3.out.onB hPl hVl hb4)
        have HL5 := Lib.hid hr4
        clear hr4 hb4 hg4 hat4
        refine hK.out _ _ ⟨HE5.out.ptr.c0, HE5.out.c3⟩ (fun hHeld => ?_)
        clear hK K
        refine norm_ (a' := ?_) ?_ ?_
        rotate_left
        · show Act.put _ (some 25) _ = _
          simp only [Act.put, List.setIfInBounds_toArray, List.set_cons_zero, List.set_cons_succ, i64_w, i32_w]
          rfl
        refine pure_ (i := 6) (N := (some 26)) (v := ?_) (a' := ?_) #[true, true, true, true, true, true, true, false] rfl rfl (any_of HT_.out (by kernel_rfl)) (fun _ _ _ h => h) (Or.inl ⟨by rfl, ?_⟩) ?_ ?_
        rotate_left
        · intro w'
          go_simp
          with_reducible rfl
        rotate_left
        · simp only [Act.put, List.setIfInBounds_toArray, List.set_cons_zero, List.set_cons_succ, i64_w, i32_w]
          rfl
        refine last_ (i := 7) (N := none) #[true, true, true, true, true, true, true, true] rfl rfl (one_of HT_.out (by kernel_rfl)) (by decide) (fun K hK => ?_)
        have hcc := HE5.out.c3
        have hff := HE5.out.f 3
        refine skip_ (w1 := w4.setCell ⟨V, 3, none⟩ (.slice A5 zs.length k5)) (by rfl) rfl ?_ ?_
        · go_simp
          try rfl
        have HE6 : Hid (MgS w (w4.setCell ⟨V, 3, none⟩ (.slice A5 zs.length k5)) P V A c b.length q2 k who ver (.slice A5 zs.length k5)) := Lib.hid (HE5.out.put hVP hVl 3 (.slice A5 zs.length k5) rfl)
        have HL6 := Lib.hid (ER.set HL5.out (E := V) (by omega) 3 (.slice A5 zs.length k5))
        clear hcc hff HE3 HE4 HE5 HL3 HL5 HT3
        refine hK.out _ _ ?_
        clear hK K
        refine done_ (done_of HT_.out (by kernel_rfl)) ?_
        clear HX HE HED0 HD HED
        go_wp2
        go_roundg (N - (i + 1))
        case measure => omega
        case rel => exact ⟨i + 1, q2, _, zs, by go_num, by omega, rfl, hq2, HZL.out, HXN, HE6, HL6⟩
      · obtain rfl : i = N := by omega
        have hX := HX.out
        rw [Nat.sub_self, rents, bnd_ok, bnd_ok, List.append_nil] at hX
        have HXX := Lib.hid hX
        clear hX HX
        go_wp2
        go_end0
        exact MgP.ok HXX.out HE.out (Kd.R_lower HED0.out (Nat.le_succ _)) (by rw [List.length_drop]; omega)
end Go.Proofs.Ytmbnjgnmblgjoaa.Man
end

-- GetMsg
section
/- codec.GetMsg of the given program: what it comes to, for all bytes. Printed by wip/tools/gen_getmsg.py. -/

namespace Go.Proofs.Ytmbnjgnmblgjoaa.Man
open Go.RowKit Go.Proofs.YtmbnjgnmblgjoaaW.PrintWords Go.Proofs.YtmbnjgnmblgjoaaW.PrintLast Go.Proofs.YtmbnjgnmblgjoaaW.PrintMore
set_option linter.unusedVariables false
set_option linter.unusedSimpArgs false
set_option maxRecDepth 100000

theorem MsgC.ne {w w1 : World} {E : Nat} {a0 a1 a2 : Int} {v : Value} (h : MsgC w E a0 a1 a2 v) (e : w1.heap[E]? = w.heap[E]?) : MsgC w1 E a0 a1 a2 v := e.trans h
/-- A message stored whole. -/
def setMsg (w : World) (E : Nat) (b0 b1 b2 : Int) (u : Value) : World :=
  (((w.setCell ⟨E, 0, none⟩ (.int .i64 b0)).setCell ⟨E, 1, none⟩ (.int .i64 b1)).setCell ⟨E, 2, none⟩ (.int .i64 b2)).setCell ⟨E, 3, none⟩ u
theorem MsgC.set {w : World} {E : Nat} {a0 a1 a2 : Int} {v : Value} (h : MsgC w E a0 a1 a2 v) (b0 b1 b2 : Int) (u : Value) : MsgC (setMsg w E b0 b1 b2 u) E b0 b1 b2 u :=
  (((h.put 0 (.int .i64 b0) rfl).put 1 (.int .i64 b1) rfl).put 2 (.int .i64 b2) rfl).put 3 u rfl
theorem ER.setMsg {w : World} {base E : Nat} {v : Value} {xs : List K.S26} (h : ER w base v xs) (hE : E < base) (b0 b1 b2 : Int) (u : Value) : ER (setMsg w E b0 b1 b2 u) base v xs :=
  (((h.set hE 0 _).set hE 1 _).set hE 2 _).set hE 3 _
theorem below_setMsg {w w1 : World} (hb : Below w.heap.size w w1) (E : Nat) (hE : w.heap.size ≤ E) (b0 b1 b2 : Int) (u : Value) : Below w.heap.size w (setMsg w1 E b0 b1 b2 u) :=
  below_set_young (below_set_young (below_set_young (below_set_young hb E 0 _ hE) E 1 _ hE) E 2 _ hE) E 3 _ hE
/-- A message read: its value. -/
def MsgR (base : Nat) (m : MsgL) (r : Value) (w' : World) : Prop := ∃ u, r = .agg #[.int .i64 m.k, .int .i64 m.who, .int .i64 m.ver, u] ∧ ER w' base u m.l

set_option maxHeartbeats 8000000 in
theorem getMsg2_is {w : World} {V base : Nat} {u : Value} {m : MsgL} (kv : MsgC w V m.k m.who m.ver u) (ht : ER w base u m.l) :
    Calls Try.prog 132 #[.pointer (some ⟨V, 0, none⟩)] w fun e w' => e = .returned (.int .i64 (msgE m)) ∧ Below w.heap.size w w' := by
  obtain ⟨A1, k1, rfl, hk1, hC⟩ := ht.C
  have HD := Lib.hid (message_is m A1 k1 w hC hk1)
  obtain ⟨v0, v1, v2, v3⟩ := kv.cells
  clear kv ht hC
  go_enter Try.func132, Try.ntmps132
  go_wp2_with (go_at_call 109; refine HD.out.mono ?_; rintro e w1 ⟨rfl, hb⟩; have HB := Lib.hid hb; clear hb)
  go_ret
  exact ⟨rfl, HB.out⟩

set_option maxHeartbeats 16000000 in
theorem getMsg_is (w : World) (A : Option Addr) (c : Nat) (b : List Int) (hC : Kd.C (Kd.int .u8) w A b.length b) (hc : b.length ≤ c) (hB : areBytesN b = true) :
    Calls Try.prog 66 #[.slice A b.length c] w fun e w' => ∃ r, e = .returned (.tuple #[r, .int .i64 (getMsgF b).2]) ∧ MsgR w.heap.size (getMsgF b).1 r w' ∧ Below w.heap.size w w' := by
  have hmf : ∀ (fn : Fn) (first cap : Array Value) (w : World), (Instr.makeFunc fn first cap).run Try.prog w = .ok (.func fn first cap) w := fun _ _ _ _ => rfl
  obtain ⟨wV, hwV⟩ : ∃ wV, wV = (w.alloc (.cells #[.int .i64 0, .int .i64 0, .int .i64 0, .slice none 0 0] 71)).alloc (.cells #[.int .i64 0, .int .i64 0, .int .i64 0, .slice none 0 0] 71) := ⟨_, rfl⟩
  have hbV : Below w.heap.size w wV := by rw [hwV]; exact ((Below.refl _ _).alloc (Nat.le_refl _) _).alloc (by simp) _
  have hzV : wV.heap.size = w.heap.size + 2 := by rw [hwV, World.size_alloc, World.size_alloc]
  have hS : MsgC wV w.heap.size 0 0 0 (.slice none 0 0) := by rw [hwV]; exact (Below.heap_alloc _ _ _ (by simp)).trans (World.alloc_heap_new w _)
  have hV : MsgC wV (w.heap.size + 1) 0 0 0 (.slice none 0 0) := by rw [hwV]; have := World.alloc_heap_new (w.alloc (.cells #[.int .i64 0, .int .i64 0, .int .i64 0, .slice none 0 0] 71)) (.cells #[.int .i64 0, .int .i64 0, .int .i64 0, .slice none 0 0] 71); rwa [World.size_alloc] at this
  have hbr := runW_below wV A b.length c
  have hbR : Below w.heap.size w (runW wV A b.length c) := hbV.trans (hbr.mono hbV.size)
  have hrz := runW_size wV A b.length c
  have hVr : MsgC (runW wV A b.length c) (w.heap.size + 1) 0 0 0 (.slice none 0 0) := hV.ne (hbr.block _ hV.lt)
  have hSr : MsgC (runW wV A b.length c) w.heap.size 0 0 0 (.slice none 0 0) := hS.ne (hbr.block _ hS.lt)
  have hs := spot0 wV A b.length c
  have e1 := enters_fn Try.func130 (by kernel_rfl) rfl
  have e2 := enters_fn Try.func132 (by kernel_rfl) rfl
  have hR0 : ∀ {w1 : World}, Kp2 (runW wV A b.length c) w1 (wV.heap.size + 1) (w.heap.size + 1) → ResAt w1 wV.heap.size 0 := fun hk => (hk.block _ (by rw [hrz]; omega) (by omega) (by omega)).trans (res0 wV A b.length c)
  have hS0 : ∀ {w1 : World}, Kp2 (runW wV A b.length c) w1 (wV.heap.size + 1) (w.heap.size + 1) → MsgC w1 w.heap.size 0 0 0 (.slice none 0 0) := fun hk => hSr.ne (hk.block _ (by rw [hrz]; omega) (by omega) (by omega))
  have hbG : ∀ {w1 : World}, Kp2 (runW wV A b.length c) w1 (wV.heap.size + 1) (w.heap.size + 1) → Below w.heap.size w w1 := fun hk => hk.old hbR (by omega) (by omega)
  have hd := smsg_is hC hc hB hbR (by omega) (by omega) (Nat.zero_le _) hs (by omega) hVr
  rw [List.drop_zero] at hd
  unfold getMsgF
  rcases hres : rmsg b with f | ⟨m, r⟩
  · rw [hres] at hd
    have hrun := run_err wV A b.length c 130 132 #[.pointer (some ⟨w.heap.size + 1, 0, none⟩)] #[.pointer (some ⟨w.heap.size + 1, 0, none⟩)] f (fun w1 => MsgC w1 w.heap.size 0 0 0 (.slice none 0 0) ∧ Below w.heap.size w w1) e1
      (hd.mono fun e w1 ⟨h2, h1⟩ => ⟨h1, hR0 h2, hS0 h2, hbG h2⟩)
    have hne := ErrNz.msg b f hres
    have hneb : (f != 0) = true := by simpa using hne
    rw [hzV, hwV] at hrun
    have HR := Lib.hid hrun
    unfold allF
    simp only
    have HZ : Hid (w.heap.size ≤ w.heap.size + 2) := Lib.hid (by omega)
    clear hC hB hwV hbV hzV hS hV hbr hbR hrz hVr hSr hs e1 e2 hR0 hS0 hbG hres hd hrun hne
    go_enter Try.func66, Try.ntmps66
    go_upto_region 4 with (go_at_call 92; refine HR.out.mono ?_; rintro e w1 ⟨rfl, w2, ⟨hs1, hj⟩, rfl⟩; have HJ := Lib.hid (below_set_young hj (w.heap.size + 2) 0 (.int .i64 f) HZ.out); have HS1 : Hid (MsgC (w2.setCell ⟨w.heap.size + 2, 0, none⟩ (.int .i64 f)) w.heap.size 0 0 0 (.slice none 0 0)) := Lib.hid (hs1.ne (heap_set_ne w2 _ 0 _ _ (by omega))); obtain ⟨v0, v1, v2, v3⟩ := HS1.out.cells; have vf := HS1.out.f; clear hj hs1)
    go_wp2
    obtain ⟨z0, z1, z2, z3⟩ := (HS1.out.set 0 0 0 (.slice none 0 0)).cells
    unfold setMsg at z0 z1 z2 z3
    refine bodyPost_ret (v := .tuple #[.agg #[.int .i64 0, .int .i64 0, .int .i64 0, .slice none 0 0], .int .i64 f]) (by simp [results, Try.results66, go_sem, z0, z1, z2, z3]) rfl ?_
    exact ⟨_, rfl, ⟨_, rfl, Kd.R_nil _ _ _ _ _⟩, below_setMsg HJ.out w.heap.size (Nat.le_refl _) 0 0 0 (.slice none 0 0)⟩
  · rw [hres] at hd
    have hbr1 := (rmsg_inv hB hres).1
    have hrl : r.length ≤ b.length := by rw [hbr1, List.length_append]; omega
    have hread : Calls Try.prog 130 (#[.agg #[.pointer (some ⟨wV.heap.size + 1, 0, none⟩)]] ++ #[.pointer (some ⟨w.heap.size + 1, 0, none⟩)]) (runW wV A b.length c) fun e w1 => e = .returned (.tuple #[]) ∧ ResAt w1 wV.heap.size 0 ∧ SpotAt w1 (wV.heap.size + 1) A c b.length (b.length - r.length) ∧ (∃ u, MsgC w1 (w.heap.size + 1) m.k m.who m.ver u ∧ ER w1 (w.heap.size + 4) u m.l ∧ MsgC w1 w.heap.size 0 0 0 (.slice none 0 0) ∧ Below w.heap.size w w1) := by
      refine hd.mono ?_
      rintro e w1 ⟨hk, he, u, hv2, ht, hp⟩
      exact ⟨he, hR0 hk, hp, u, hv2, Kd.R_lower ht (by rw [hrz]; omega), hS0 hk, hbG hk⟩
    have hright : ∀ w1, (∃ u, MsgC w1 (w.heap.size + 1) m.k m.who m.ver u ∧ ER w1 (w.heap.size + 4) u m.l ∧ MsgC w1 w.heap.size 0 0 0 (.slice none 0 0) ∧ Below w.heap.size w w1) → Calls Try.prog 132 #[.pointer (some ⟨w.heap.size + 1, 0, none⟩)] w1 fun e w2 => e = .returned (.int .i64 (msgE m)) ∧ Below w1.heap.size w1 w2 := by
      rintro w1 ⟨u, kv, ht, _⟩
      exact getMsg2_is kv ht
    unfold allF
    simp only
    by_cases hr : 0 < r.length
    · rw [if_pos (.inl hr)]
      have hrun := run_left wV A b.length c (b.length - r.length) 130 132 #[.pointer (some ⟨w.heap.size + 1, 0, none⟩)] #[.pointer (some ⟨w.heap.size + 1, 0, none⟩)] _ (by omega) e1 hread
      rw [hzV, hwV] at hrun
      have HR := Lib.hid hrun
      have HZ : Hid (w.heap.size ≤ w.heap.size + 2) := Lib.hid (by omega)
      clear hC hB hwV hbV hzV hS hV hbr hbR hrz hVr hSr hs e1 e2 hR0 hS0 hbG hres hd hrun hread hright hbr1
      go_enter Try.func66, Try.ntmps66
      go_upto_region 4 with (go_at_call 92; refine HR.out.mono ?_; rintro e w1 ⟨rfl, w2, ⟨u, _, _, hs1, hj⟩, rfl⟩; have HJ := Lib.hid (below_set_young hj (w.heap.size + 2) 0 (.int .i64 4) HZ.out); have HS1 : Hid (MsgC (w2.setCell ⟨w.heap.size + 2, 0, none⟩ (.int .i64 4)) w.heap.size 0 0 0 (.slice none 0 0)) := Lib.hid (hs1.ne (heap_set_ne w2 _ 0 _ _ (by omega))); obtain ⟨v0, v1, v2, v3⟩ := HS1.out.cells; have vf := HS1.out.f; clear hj hs1)
      go_wp2
      obtain ⟨z0, z1, z2, z3⟩ := (HS1.out.set 0 0 0 (.slice none 0 0)).cells
      unfold setMsg at z0 z1 z2 z3
      refine bodyPost_ret (v := .tuple #[.agg #[.int .i64 0, .int .i64 0, .int .i64 0, .slice none 0 0], .int .i64 4]) (by simp [results, Try.results66, go_sem, z0, z1, z2, z3]) rfl ?_
      exact ⟨_, rfl, ⟨_, rfl, Kd.R_nil _ _ _ _ _⟩, below_setMsg HJ.out w.heap.size (Nat.le_refl _) 0 0 0 (.slice none 0 0)⟩
    · have hr0 : b.length - r.length = b.length := by omega
      rw [hr0] at hread
      by_cases h0 : msgE m = 0
      · rw [if_neg (by omega)]
        rw [h0] at hright
        have hrun := run_good wV A b.length c 130 132 #[.pointer (some ⟨w.heap.size + 1, 0, none⟩)] #[.pointer (some ⟨w.heap.size + 1, 0, none⟩)] _ e1 e2 hread hright
        rw [hzV, hwV] at hrun
        have HR := Lib.hid hrun
        have HZ : Hid (w.heap.size ≤ w.heap.size + 2) := Lib.hid (by omega)
        clear hC hB hwV hbV hzV hS hV hbr hbR hrz hVr hSr hs e1 e2 hR0 hS0 hbG hres hd hrun hread hright hbr1 hr hr0 h0
        go_enter Try.func66, Try.ntmps66
        go_upto_region 5 with (go_at_call 92; refine HR.out.mono ?_; rintro e w1 ⟨rfl, w2, w3, ⟨u, hv, ht, hs1, hj⟩, hb3, rfl⟩; obtain ⟨A1, k1, rfl, _, _⟩ := ht.C; have HJ := Lib.hid (below_set_young (hj.trans (hb3.mono hj.size)) (w.heap.size + 2) 0 (.int .i64 0) HZ.out); have HV3 : Hid (MsgC (w3.setCell ⟨w.heap.size + 2, 0, none⟩ (.int .i64 0)) (w.heap.size + 1) m.k m.who m.ver (.slice A1 m.l.length k1)) := Lib.hid (hv.ne ((heap_set_ne w3 _ 0 _ _ (by omega)).trans (hb3.block _ hv.lt))); have HS3 : Hid (MsgC (w3.setCell ⟨w.heap.size + 2, 0, none⟩ (.int .i64 0)) w.heap.size 0 0 0 (.slice none 0 0)) := Lib.hid (hs1.ne ((heap_set_ne w3 _ 0 _ _ (by omega)).trans (hb3.block _ hs1.lt))); have HT : Hid (ER (w3.setCell ⟨w.heap.size + 2, 0, none⟩ (.int .i64 0)) (w.heap.size + 4) (.slice A1 m.l.length k1) m.l) := Lib.hid (ER.set (Kd.R_below ht hb3) (E := w.heap.size + 2) (by omega) 0 _); clear hv ht hj hb3 hs1)
        obtain ⟨w4, hw4⟩ : ∃ w4, w3.setCell ⟨w.heap.size + 2, 0, none⟩ (.int .i64 0) = w4 := ⟨_, rfl⟩
        rw [hw4] at HJ HV3 HS3 HT ⊢
        clear hw4
        obtain ⟨u0, u1, u2, u3⟩ := HV3.out.cells
        obtain ⟨s0, s1, s2, s3⟩ := HS3.out.cells
        have sf := HS3.out.f
        go_wp2
        obtain ⟨z0, z1, z2, z3⟩ := (HS3.out.set m.k m.who m.ver (.slice A1 m.l.length k1)).cells
        unfold setMsg at z0 z1 z2 z3
        refine bodyPost_ret (v := .tuple #[.agg #[.int .i64 m.k, .int .i64 m.who, .int .i64 m.ver, .slice A1 m.l.length k1], .int .i64 0]) (by simp [results, Try.results66, go_sem, z0, z1, z2, z3]) rfl ?_
        exact ⟨_, rfl, ⟨_, rfl, Kd.R_lower (HT.out.setMsg (E := w.heap.size) (by omega) _ _ _ _) (by omega)⟩, below_setMsg HJ.out w.heap.size (Nat.le_refl _) m.k m.who m.ver (.slice A1 m.l.length k1)⟩
      · rw [if_pos (.inr h0)]
        have hrun := run_bad wV A b.length c 130 132 #[.pointer (some ⟨w.heap.size + 1, 0, none⟩)] #[.pointer (some ⟨w.heap.size + 1, 0, none⟩)] _ (msgE m) h0 e1 e2 hread hright
        rw [hzV, hwV] at hrun
        have HR := Lib.hid hrun
        have HZ : Hid (w.heap.size ≤ w.heap.size + 2) := Lib.hid (by omega)
        clear hC hB hwV hbV hzV hS hV hbr hbR hrz hVr hSr hs e1 e2 hR0 hS0 hbG hres hd hrun hread hright hbr1 hr hr0 h0
        go_enter Try.func66, Try.ntmps66
        go_upto_region 4 with (go_at_call 92; refine HR.out.mono ?_; rintro e w1 ⟨rfl, w2, w3, ⟨u, _, _, hs0, hj0⟩, hb3, rfl⟩; have hj := hj0.trans (hb3.mono hj0.size); have hs1 := hs0.ne (hb3.block _ hs0.lt); have HJ := Lib.hid (below_set_young hj (w.heap.size + 2) 0 (.int .i64 4) HZ.out); have HS1 : Hid (MsgC (w3.setCell ⟨w.heap.size + 2, 0, none⟩ (.int .i64 4)) w.heap.size 0 0 0 (.slice none 0 0)) := Lib.hid (hs1.ne (heap_set_ne w3 _ 0 _ _ (by omega))); obtain ⟨v0, v1, v2, v3⟩ := HS1.out.cells; have vf := HS1.out.f; clear hj hs1)
        go_wp2
        obtain ⟨z0, z1, z2, z3⟩ := (HS1.out.set 0 0 0 (.slice none 0 0)).cells
        unfold setMsg at z0 z1 z2 z3
        refine bodyPost_ret (v := .tuple #[.agg #[.int .i64 0, .int .i64 0, .int .i64 0, .slice none 0 0], .int .i64 4]) (by simp [results, Try.results66, go_sem, z0, z1, z2, z3]) rfl ?_
        exact ⟨_, rfl, ⟨_, rfl, Kd.R_nil _ _ _ _ _⟩, below_setMsg HJ.out w.heap.size (Nat.le_refl _) 0 0 0 (.slice none 0 0)⟩
end Go.Proofs.Ytmbnjgnmblgjoaa.Man
end

-- Alike
section
/- The statements' own comparisons of tokens and steps (layer 16) at equal arguments: true. -/

namespace Go.Proofs.Ytmbnjgnmblgjoaa.Man
open Go.RowKit Go.Proofs.YtmbnjgnmblgjoaaW.PrintWords Go.Proofs.YtmbnjgnmblgjoaaW.PrintLast Go.Proofs.YtmbnjgnmblgjoaaW.PrintMore
set_option linter.unusedVariables false
set_option linter.unusedSimpArgs false
set_option maxRecDepth 100000
attribute [local go_sem high] K.eqA111

/-- A step's cells. -/
abbrev stepV (x : K.S26) (A : Option Addr) (c : Nat) : Value := .agg #[.int .i64 x.f2.f0, .int .i64 x.f2.f1, .int .i64 x.f2.f2, .int .i64 x.f2.f3, .int .i64 x.f2.f4, .int .i64 x.f2.f5, .slice A x.f2.f6.length c, .int .i64 x.f2.f7]
end Go.Proofs.Ytmbnjgnmblgjoaa.Man
end

-- Entries
section
/- The statements' own comparison of entries and messages (layer 16) at equal arguments: true. Printed by wip/tools/gen_entries.py. -/

namespace Go.Proofs.Ytmbnjgnmblgjoaa.Man
open Go.RowKit Go.Proofs.YtmbnjgnmblgjoaaW.PrintWords Go.Proofs.YtmbnjgnmblgjoaaW.PrintLast Go.Proofs.YtmbnjgnmblgjoaaW.PrintMore
set_option linter.unusedVariables false
set_option linter.unusedSimpArgs false
set_option maxRecDepth 100000

/-- An entry's cells at a place. -/
def EC (w : World) (a : Addr) (x : K.S26) (A8 : Option Addr) (c8 : Nat) : Prop := w.cell? a = some (.int .i64 x.f0) ∧ w.cell? ⟨a.block, a.off + 1, none⟩ = some (.int .i64 x.f1) ∧ w.cell? ⟨a.block, a.off + 2, none⟩ = some (.int .i64 x.f2.f0) ∧ w.cell? ⟨a.block, a.off + 3, none⟩ = some (.int .i64 x.f2.f1) ∧ w.cell? ⟨a.block, a.off + 4, none⟩ = some (.int .i64 x.f2.f2) ∧ w.cell? ⟨a.block, a.off + 5, none⟩ = some (.int .i64 x.f2.f3) ∧ w.cell? ⟨a.block, a.off + 6, none⟩ = some (.int .i64 x.f2.f4) ∧ w.cell? ⟨a.block, a.off + 7, none⟩ = some (.int .i64 x.f2.f5) ∧ w.cell? ⟨a.block, a.off + 8, none⟩ = some (.slice A8 x.f2.f6.length c8) ∧ w.cell? ⟨a.block, a.off + 9, none⟩ = some (.int .i64 x.f2.f7)
theorem EC.below {w W : World} {a : Addr} {x : K.S26} {A8 : Option Addr} {c8 : Nat} (h : EC w a x A8 c8) (hb : Below w.heap.size w W) : EC W a x A8 c8 := by
  obtain ⟨h0, h1, h2, h3, h4, h5, h6, h7, h8, h9⟩ := h
  exact ⟨pw_cell_below hb h0, pw_cell_below hb h1, pw_cell_below hb h2, pw_cell_below hb h3, pw_cell_below hb h4, pw_cell_below hb h5, pw_cell_below hb h6, pw_cell_below hb h7, pw_cell_below hb h8, pw_cell_below hb h9⟩
theorem EC.at {w : World} {A : Option Addr} {n : Nat} {xs : List K.S26} (h : Kd.C K.k26 w A n xs) (i : Nat) (hi : i < n) : ∃ ad A8 c8, A = some ad ∧ EC w (ad.add (i * 10)) (K.rd_T26 xs i) A8 c8 ∧ (K.rd_T26 xs i).f2.f6.length ≤ c8 ∧ Kd.C K.k111 w A8 (K.rd_T26 xs i).f2.f6.length (K.rd_T26 xs i).f2.f6 := by
  obtain ⟨ad, A8, c8, e, h0, h1, h2, h3, h4, h5, h6, h7, h8, h9, hl, hc⟩ := K.at_T26 h (i : Int) (by omega) (by omega)
  rw [Int.toNat_natCast] at h0 h1 h2 h3 h4 h5 h6 h7 h8 h9
  exact ⟨ad, A8, c8, e, ⟨h0, h1, h2, h3, h4, h5, h6, h7, h8, h9⟩, hl, hc⟩
def entR6.T : Bool × List (List Nat × List Nat) := (true, [([], []), ([], []), ([0, 1], [0, 1]), ([2], [2]), ([3], [3]), ([], []), ([], []), ([5, 6], [5, 6]), ([7], [7]), ([8], [8]), ([4, 9], [4, 9]), ([10], [10]), ([11], [11]), ([11], [11]), ([12, 13, 11], [11, 12, 13]), ([14, 11], [11, 14]), ([15, 11], [11, 15]), ([11], [11]), ([11], [11]), ([17, 18, 11], [11, 17, 18]), ([19, 11], [11, 19]), ([20, 11], [11, 20]), ([16, 21, 11], [11, 16, 21]), ([11, 22], [11, 22]), ([23, 11], [23]), ([24], [24]), ([24], [24]), ([25, 26, 24], [24, 25, 26]), ([27, 24], [24, 27]), ([28, 24], [24, 28]), ([24], [24]), ([24], [24]), ([30, 31, 24], [24, 30, 31]), ([32, 24], [24, 32]), ([33, 24], [24, 33]), ([29, 34, 24, 24], [24, 29, 34]), ([35, 24], [24, 35]), ([24, 36], [24, 36])])
def entR6.B : List Nat := [0, 0, 3, 7, 15, 0, 0, 96, 224, 480, 1023, 2047, 4095, 4095, 16383, 32767, 65535, 4095, 4095, 397311, 921599, 1970175, 4194303, 8388607, 16777215, 33554431, 33554431, 134217727, 268435455, 536870911, 33554431, 33554431, 3254779903, 7549747199, 16139681791, 34359738367, 68719476735, 137438953471]
end Go.Proofs.Ytmbnjgnmblgjoaa.Man
end

-- BackMath
section
/- What is written is bytes; one entry that lies in a row. -/

namespace Go.Proofs.Ytmbnjgnmblgjoaa.Man
open Go.RowKit Go.Proofs.YtmbnjgnmblgjoaaW.PrintWords Go.Proofs.YtmbnjgnmblgjoaaW.PrintLast Go.Proofs.YtmbnjgnmblgjoaaW.PrintMore
set_option linter.unusedVariables false
set_option linter.unusedSimpArgs false
set_option maxRecDepth 100000

end Go.Proofs.Ytmbnjgnmblgjoaa.Man
end

-- OpensCodec
section
/- What tokens, entries, messages read as. -/


namespace Go.Proofs.Ytmbnjgnmblgjoaa.Open
open Go.RowKit Go.ChangeShapes Go.WideShapes Go.Proofs.YtmbnjgnmblgjoaaW.PrintWords
set_option linter.unusedVariables false
/-- Opens, OpensF, shut up in a structure: Lean does not look through them. -/
structure OP {α : Type} (P : Program) (t : TypeId) (K : Kd α) (bk : α → Nat) : Prop where
  out : Opens P t K (fun _ => True) bk
structure OF {α : Type} (P : Program) (o : Nat) (fs : List Field) (K : Kd α) (bk : α → Nat) : Prop where
  out : OpensF P o fs K (fun _ => True) bk
theorem OP.of {α : Type} {P : Program} {t : TypeId} {K : Kd α} {wf : α → Prop} {bk bk' : α → Nat} (h : Opens P t K wf bk) (hb : ∀ x, bk' x ≤ bk x) : OP P t K bk' := ⟨by
  intro H enc w fuel cs d ps hd hwt
  obtain ⟨x, k1, k2, k3⟩ := h enc w fuel cs d ps hd hwt
  exact ⟨x, k1, trivial, Nat.le_trans (hb x) k3⟩⟩
theorem OF.of {α : Type} {P : Program} {o : Nat} {fs : List Field} {K : Kd α} {wf : α → Prop} {bk bk' : α → Nat} (h : OpensF P o fs K wf bk) (hb : ∀ x, bk' x ≤ bk x) : OF P o fs K bk' := ⟨by
  intro H enc w n cs ys hl hy hwt
  obtain ⟨x, k1, k2, k3⟩ := h enc w n cs ys hl hy hwt
  exact ⟨x, k1, trivial, Nat.le_trans (hb x) k3⟩⟩
theorem OF.cons {α β : Type} {P : Program} {o : Nat} {f : Field} {fs : List Field} {K : Kd α} {K' : Kd β} {bk : α → Nat} {bk' : β → Nat} (ho : f.offset = o) (hc : P.cellsOf f.type = K.sz) (h : OP P f.type K bk) (h' : OF P (o + K.sz) fs K' bk') : OF P o (f :: fs) (Kd.pair K K') (fun x => bk x.1 + bk' x.2) :=
  .of (opensF_cons ho hc h.out h'.out) (fun _ => Nat.le_refl _)
theorem OP.struct {α β : Type} {P : Program} {t : TypeId} {fs : Array Field} {l : List Field} {K : Kd α} {bk : α → Nat} (f : β → α) (g : α → β) (hfg : ∀ a, f (g a) = a) (ht : P.underlying t = some (.struct fs)) (hl : fs.toList = l) (hc : P.cellsOf t = K.sz) (h : OF P 0 l K bk) : OP P t (Kd.iso K f) (fun x => bk (f x) + 1) :=
  .of (opens_iso f g hfg (opens_struct ht hl hc h.out)) (fun _ => Nat.le_refl _)
theorem OP.slice {α : Type} {P : Program} {t e : TypeId} {K : Kd α} {bk : α → Nat} (ht : P.underlying t = some (.slice e)) (hc : P.cellsOf e = K.sz) (h : OP P e K bk) : OP P t (Kd.slice e K) (fun xs => sum1 bk xs + 1) :=
  .of (opens_slice ht hc (B := P.bytesOf e) rfl h.out e) (fun _ => Nat.le_refl _)
theorem OP.le {α : Type} {P : Program} {t : TypeId} {K : Kd α} {bk bk' : α → Nat} (h : OP P t K bk) (hb : ∀ x, bk' x ≤ bk x) : OP P t K bk' := .of h.out hb
theorem OF.le {α : Type} {P : Program} {o : Nat} {fs : List Field} {K : Kd α} {bk bk' : α → Nat} (h : OF P o fs K bk) (hb : ∀ x, bk' x ≤ bk x) : OF P o fs K bk' := .of h.out hb
/-- The kind of messages. -/
def kMsg : Kd Man.MsgL := Kd.iso (Kd.pair (Kd.int .i64) (Kd.pair (Kd.int .i64) (Kd.pair (Kd.int .i64) (Kd.slice 26 K.k26)))) (fun m : Man.MsgL => (m.k, m.who, m.ver, m.l))
end Go.Proofs.Ytmbnjgnmblgjoaa.Open
end

-- Back
section
/- The statement CodecBack, stepped through. No condition. Printed by wip/tools/gen_back.py. -/


namespace Go.Proofs.Ytmbnjgnmblgjoaa.Man
open Go.RowKit Go.Proofs.YtmbnjgnmblgjoaaW.PrintWords Go.Proofs.YtmbnjgnmblgjoaaW.PrintLast Go.Proofs.YtmbnjgnmblgjoaaW.PrintMore
set_option linter.unusedVariables false
set_option linter.unusedSimpArgs false
set_option maxRecDepth 100000

theorem EntAt.below {w W : World} {P c : Nat} {x : K.S26} {A : Option Addr} (h : EntAt w P x A c) (hb : Below w.heap.size w W) : EntAt W P x A c := (hb.block _ h.lt).trans h
theorem MsgAt.below {w W : World} {P n c : Nat} {k who ver : Int} {A : Option Addr} (h : MsgAt w P k who ver A n c) (hb : Below w.heap.size w W) : MsgAt W P k who ver A n c := (hb.block _ h.lt).trans h
theorem EntAt.ne {w W : World} {P c : Nat} {x : K.S26} {A : Option Addr} (h : EntAt w P x A c) (e : W.heap[P]? = w.heap[P]?) : EntAt W P x A c := e.trans h
theorem MsgAt.ne {w W : World} {P n c : Nat} {k who ver : Int} {A : Option Addr} (h : MsgAt w P k who ver A n c) (e : W.heap[P]? = w.heap[P]?) : MsgAt W P k who ver A n c := e.trans h
theorem put_doc {l : List K.S111} (h : docE l = 0) : putDocF l = (docB l, 0) := by unfold putDocF; rw [if_pos h, h]
theorem put_ent {x : K.S26} (h : entryE x = 0) : putEntryF x = (entryB x, 0) := by unfold putEntryF; rw [if_pos h, h]
theorem put_msg {m : MsgL} (h : msgE m = 0) : putMsgF m = (msgB m, 0) := by unfold putMsgF; rw [if_pos h, h]

end Go.Proofs.Ytmbnjgnmblgjoaa.Man
end

-- One
section
/- The statement CodecOne, stepped through. No condition. Printed by wip/tools/gen_one.py. -/

namespace Go.Proofs.Ytmbnjgnmblgjoaa.Man
open Go.RowKit Go.Proofs.YtmbnjgnmblgjoaaW.PrintWords Go.Proofs.YtmbnjgnmblgjoaaW.PrintLast Go.Proofs.YtmbnjgnmblgjoaaW.PrintMore
set_option linter.unusedVariables false
set_option linter.unusedSimpArgs false
set_option maxRecDepth 100000

theorem flatRight_is {x : K.S111} (h : rightB x = true) (w : World) : Calls Try.prog 75 #[.agg #[.int .i64 x.f0, .int .i64 x.f1, .int .i64 x.f2, .int .i64 x.f3]] w fun e w' => e = .returned (.bool true) ∧ Below w.heap.size w w' :=
  K.flat_Right.calls _ _ _ _ true w (by rw [right_f, h])
set_option maxHeartbeats 32000000 in
theorem one_walk (A1 : Option Addr) (c1 : Nat) (b : List Int) (w : World) (hr1 : Kd.C (Kd.int .u8) w A1 b.length b) (hc1 : b.length ≤ c1) (hB : areBytesN b = true) :
    Calls Try.prog 14 #[.slice A1 b.length c1] w fun e w' => e = .returned (.bool true) ∧ Below w.heap.size w w' := by
  have hG := getDoc_is w A1 c1 b hr1 hc1 hB
  obtain ⟨⟨xs, er⟩, hgd⟩ : ∃ p, getDocF b = p := ⟨_, rfl⟩
  rw [hgd] at hG
  simp only at hG
  have HC1 := Lib.hid hr1
  have HBB := Lib.hid hB
  have HG := Lib.hid hG
  clear hr1 hB hG
  by_cases h1 : er = 0
  · subst h1
    obtain ⟨h0, hbb⟩ := getDoc_one HBB.out hgd
    have HOK := Lib.hid (docE_zero h0).2
    clear hgd
    go_enter Try.func14, Try.ntmps14
    go_upto_region 3 with (go_at_call 63; refine HG.out.mono ?_; rintro e w1 ⟨v, rfl, hr, hb⟩; obtain ⟨A4, k4, rfl, hk4, hC⟩ := TR.C hr; have HR1 := Lib.hid hC; have HK1 := Lib.hid hk4; have HX1 := Lib.hid hb; clear hr hb hC hk4)
    have hl : xs.length ≤ 9223372036854775807 := HR1.out.2.1
    have hD := putDoc_is A4 k4 xs w1 HR1.out HK1.out
    rw [h0, put_doc h0, hbb] at hD
    have HD := Lib.hid hD
    clear hD h0 hbb HG
    go_upto_region 4 with (go_at_call 49; refine HD.out.mono ?_; rintro e w2 ⟨v, rfl, hr, hb⟩; obtain ⟨A5, k5, rfl, hk5, hC⟩ := BR.len hr; have HR2 := Lib.hid hC; have HY2 := Lib.hid hb; have HX2 := Lib.hid (HX1.out.trans (hb.mono HX1.out.size)); clear hr hb hC hk5)
    have t1 : (convert 27 9 (.slice A5 b.length k5)).run Try.prog w2 = .ok (.string (strOfNums b)) w2 := bstr_of HR2.out
    have t2 : (convert 27 9 (.slice A1 b.length c1)).run Try.prog w2 = .ok (.string (strOfNums b)) w2 := bstr_of (Kd.C_below HC1.out HX2.out)
    have HRX := Lib.hid (Kd.C_below HR1.out HY2.out)
    clear HD HR1
    go_wp2
    clear t1 t2
    go_loopg [7] xs.length (fun g s7 wr => ∃ i : Nat, s7 = .int .i64 i ∧ i ≤ xs.length ∧ g = xs.length - i ∧ Hid (Below w2.heap.size w2 wr))
    case atStart => exact ⟨0, rfl, Nat.zero_le _, rfl, Lib.hid (Below.refl _ _)⟩
    obtain ⟨i, rfl, hi, hg, HL⟩ := hrel
    by_cases hlt : i < xs.length
    · obtain ⟨ad, e1, a0, a1, a2, a3⟩ := K.at_T111 (Kd.C_below HRX.out HL.out) (i : Int) (by omega) (by omega)
      subst e1
      rw [Int.toNat_natCast] at a0 a1 a2 a3
      have hrt : rightB (K.rd_T111 xs i) = true := HOK.out _ (by unfold K.rd_T111; rw [Int.toNat_natCast, List.getD_eq_getElem?_getD, List.getElem?_eq_getElem hlt]; exact List.getElem_mem hlt)
      generalize K.rd_T111 xs i = x at a0 a1 a2 a3 hrt
      have HD := Lib.hid (flatRight_is hrt)
      clear hrt
      go_wp2_with (go_at_call 75; refine (HD.out _).mono ?_; rintro e w3 ⟨rfl, hb⟩; have HL3 := Lib.hid (HL.out.trans (hb.mono HL.out.size)); clear hb)
      go_roundg (xs.length - (i + 1))
      case measure => omega
      case rel => exact ⟨i + 1, by go_num, by omega, rfl, HL3⟩
    obtain rfl : i = xs.length := by omega
    go_upto_region 11 with (fail)
    have HBD : Hid (Below w.heap.size w wr) := Lib.hid (HX2.out.trans (HL.out.mono HX2.out.size))
    have hG := getEntry_is wr A1 c1 b (Kd.C_below HC1.out HBD.out) hc1 HBB.out
    obtain ⟨⟨x, erx⟩, hgx⟩ : ∃ p, getEntryF b = p := ⟨_, rfl⟩
    rw [hgx] at hG
    simp only at hG
    have HGx := Lib.hid hG
    clear hG
    by_cases h2 : erx = 0
    · subst h2
      obtain ⟨h0, hbb⟩ := getEntry_one HBB.out hgx
      clear hgx
      go_upto_region 13 with (go_at_call 23; refine HGx.out.mono ?_; rintro e w4 ⟨v, rfl, ⟨u, rfl, hr⟩, hb⟩; obtain ⟨A6, k6, rfl, l6, hC⟩ := TR.C hr; have HR4 := Lib.hid hC; have HX4 := Lib.hid (HBD.out.trans (hb.mono HBD.out.size)); clear hr hb hC)
      obtain ⟨w5, hw5⟩ : ∃ w5, w4.alloc (entO x A6 k6) = w5 := ⟨_, rfl⟩
      have hE5 : EntAt w5 w4.heap.size x A6 k6 := by rw [← hw5]; exact World.alloc_heap_new w4 _
      have hb5 : Below w4.heap.size w4 w5 := by rw [← hw5]; exact (Below.refl _ _).alloc (Nat.le_refl _) _
      rw [hw5]
      have hD := putEntry_is x A6 k6 w5 (Kd.C_below HR4.out hb5) l6
      rw [h0, put_ent h0, hbb] at hD
      have HD := Lib.hid hD
      have HX5 := Lib.hid (HX4.out.trans (hb5.mono HX4.out.size))
      obtain ⟨q0, q1, q2, q3, q4, q5, q6, q7, q8, q9⟩ := hE5.c
      clear hD h0 hbb hb5 hE5 HGx hw5
      go_upto_region 14 with (go_at_call 19; refine HD.out.mono ?_; rintro e wE ⟨v, rfl, hr, hb⟩; obtain ⟨A7, k7, rfl, hk7, hC⟩ := BR.len hr; have HR7 := Lib.hid hC; have HBE := Lib.hid (HX5.out.trans (hb.mono HX5.out.size)); clear hr hb hC hk7)
      have t1 : (convert 27 9 (.slice A7 b.length k7)).run Try.prog wE = .ok (.string (strOfNums b)) wE := bstr_of HR7.out
      have t2 : (convert 27 9 (.slice A1 b.length c1)).run Try.prog wE = .ok (.string (strOfNums b)) wE := bstr_of (Kd.C_below HC1.out HBE.out)
      clear HD q0 q1 q2 q3 q4 q5 q6 q7 q8 q9
      go_upto_region 16 with (fail)
      clear t1 t2 HR7
      have hG := getMsg_is wE A1 c1 b (Kd.C_below HC1.out HBE.out) hc1 HBB.out
      obtain ⟨⟨m, erm⟩, hgm⟩ : ∃ p, getMsgF b = p := ⟨_, rfl⟩
      rw [hgm] at hG
      simp only at hG
      have HGm := Lib.hid hG
      clear hG
      by_cases h3 : erm = 0
      · subst h3
        obtain ⟨h0, hbb⟩ := getMsg_one HBB.out hgm
        clear hgm
        go_upto_region 18 with (go_at_call 66; refine HGm.out.mono ?_; rintro e w4 ⟨v, rfl, ⟨u, rfl, hr⟩, hb⟩; obtain ⟨A6, k6, rfl, l6, hC⟩ := ER.C hr; have HR4 := Lib.hid hC; have HX4 := Lib.hid (HBE.out.trans (hb.mono HBE.out.size)); clear hr hb hC)
        obtain ⟨w5, hw5⟩ : ∃ w5, w4.alloc (msgO m A6 k6) = w5 := ⟨_, rfl⟩
        have hE5 : MsgAt w5 w4.heap.size m.k m.who m.ver A6 m.l.length k6 := by rw [← hw5]; exact World.alloc_heap_new w4 _
        have hb5 : Below w4.heap.size w4 w5 := by rw [← hw5]; exact (Below.refl _ _).alloc (Nat.le_refl _) _
        rw [hw5]
        have hD := putMsg_is m A6 k6 w5 (Kd.C_below HR4.out hb5) l6
        rw [h0, put_msg h0, hbb] at hD
        have HD := Lib.hid hD
        have HX5 := Lib.hid (HX4.out.trans (hb5.mono HX4.out.size))
        obtain ⟨q0, q1, q2, q3⟩ := hE5.c
        clear hD h0 hbb hb5 hE5 HGm hw5
        go_upto_region 19 with (go_at_call 52; refine HD.out.mono ?_; rintro e wM ⟨v, rfl, hr, hb⟩; obtain ⟨A7, k7, rfl, hk7, hC⟩ := BR.len hr; have HR7 := Lib.hid hC; have HBM := Lib.hid (HX5.out.trans (hb.mono HX5.out.size)); clear hr hb hC hk7)
        have t1 : (convert 27 9 (.slice A7 b.length k7)).run Try.prog wM = .ok (.string (strOfNums b)) wM := bstr_of HR7.out
        have t2 : (convert 27 9 (.slice A1 b.length c1)).run Try.prog wM = .ok (.string (strOfNums b)) wM := bstr_of (Kd.C_below HC1.out HBM.out)
        clear HD q0 q1 q2 q3
        go_wp2_with (go_at_call 47; refine (awake16_is _).mono ?_; rintro e w7 ⟨rfl, hb⟩; have HW7 := Lib.hid (HBM.out.trans (hb.mono HBM.out.size)); clear hb)
        go_ret
        exact ⟨rfl, HW7.out⟩
      · have hbe3 : (erm == 0) = false := by simpa using h3
        clear hgm h3
        go_upto_region 21 with (go_at_call 66; refine HGm.out.mono ?_; rintro e w4 ⟨v, rfl, ⟨u, rfl, hr⟩, hb⟩; obtain ⟨A6, k6, rfl, l6, hC⟩ := ER.C hr; have HX4 := Lib.hid (HBE.out.trans (hb.mono HBE.out.size)); clear hr hb hC)
        obtain ⟨wM, hwM⟩ : ∃ wM, w4.alloc (msgO m A6 k6) = wM := ⟨_, rfl⟩
        have HBM : Hid (Below w.heap.size w wM) := Lib.hid (by rw [← hwM]; exact HX4.out.alloc HX4.out.size _)
        rw [hwM]
        clear HGm hbe3 hwM
        go_wp2_with (go_at_call 47; refine (awake16_is _).mono ?_; rintro e w7 ⟨rfl, hb⟩; have HW7 := Lib.hid (HBM.out.trans (hb.mono HBM.out.size)); clear hb)
        go_ret
        exact ⟨rfl, HW7.out⟩
    · have hbe2 : (erx == 0) = false := by simpa using h2
      clear hgx h2
      go_upto_region 16 with (go_at_call 23; refine HGx.out.mono ?_; rintro e w4 ⟨v, rfl, ⟨u, rfl, hr⟩, hb⟩; obtain ⟨A6, k6, rfl, l6, hC⟩ := TR.C hr; have HX4 := Lib.hid (HBD.out.trans (hb.mono HBD.out.size)); clear hr hb hC)
      obtain ⟨wE, hwE⟩ : ∃ wE, w4.alloc (entO x A6 k6) = wE := ⟨_, rfl⟩
      have HBE : Hid (Below w.heap.size w wE) := Lib.hid (by rw [← hwE]; exact HX4.out.alloc HX4.out.size _)
      rw [hwE]
      clear HGx hbe2 hwE
      have hG := getMsg_is wE A1 c1 b (Kd.C_below HC1.out HBE.out) hc1 HBB.out
      obtain ⟨⟨m, erm⟩, hgm⟩ : ∃ p, getMsgF b = p := ⟨_, rfl⟩
      rw [hgm] at hG
      simp only at hG
      have HGm := Lib.hid hG
      clear hG
      by_cases h3 : erm = 0
      · subst h3
        obtain ⟨h0, hbb⟩ := getMsg_one HBB.out hgm
        clear hgm
        go_upto_region 18 with (go_at_call 66; refine HGm.out.mono ?_; rintro e w4 ⟨v, rfl, ⟨u, rfl, hr⟩, hb⟩; obtain ⟨A6, k6, rfl, l6, hC⟩ := ER.C hr; have HR4 := Lib.hid hC; have HX4 := Lib.hid (HBE.out.trans (hb.mono HBE.out.size)); clear hr hb hC)
        obtain ⟨w5, hw5⟩ : ∃ w5, w4.alloc (msgO m A6 k6) = w5 := ⟨_, rfl⟩
        have hE5 : MsgAt w5 w4.heap.size m.k m.who m.ver A6 m.l.length k6 := by rw [← hw5]; exact World.alloc_heap_new w4 _
        have hb5 : Below w4.heap.size w4 w5 := by rw [← hw5]; exact (Below.refl _ _).alloc (Nat.le_refl _) _
        rw [hw5]
        have hD := putMsg_is m A6 k6 w5 (Kd.C_below HR4.out hb5) l6
        rw [h0, put_msg h0, hbb] at hD
        have HD := Lib.hid hD
        have HX5 := Lib.hid (HX4.out.trans (hb5.mono HX4.out.size))
        obtain ⟨q0, q1, q2, q3⟩ := hE5.c
        clear hD h0 hbb hb5 hE5 HGm hw5
        go_upto_region 19 with (go_at_call 52; refine HD.out.mono ?_; rintro e wM ⟨v, rfl, hr, hb⟩; obtain ⟨A7, k7, rfl, hk7, hC⟩ := BR.len hr; have HR7 := Lib.hid hC; have HBM := Lib.hid (HX5.out.trans (hb.mono HX5.out.size)); clear hr hb hC hk7)
        have t1 : (convert 27 9 (.slice A7 b.length k7)).run Try.prog wM = .ok (.string (strOfNums b)) wM := bstr_of HR7.out
        have t2 : (convert 27 9 (.slice A1 b.length c1)).run Try.prog wM = .ok (.string (strOfNums b)) wM := bstr_of (Kd.C_below HC1.out HBM.out)
        clear HD q0 q1 q2 q3
        go_wp2_with (go_at_call 47; refine (awake16_is _).mono ?_; rintro e w7 ⟨rfl, hb⟩; have HW7 := Lib.hid (HBM.out.trans (hb.mono HBM.out.size)); clear hb)
        go_ret
        exact ⟨rfl, HW7.out⟩
      · have hbe3 : (erm == 0) = false := by simpa using h3
        clear hgm h3
        go_upto_region 21 with (go_at_call 66; refine HGm.out.mono ?_; rintro e w4 ⟨v, rfl, ⟨u, rfl, hr⟩, hb⟩; obtain ⟨A6, k6, rfl, l6, hC⟩ := ER.C hr; have HX4 := Lib.hid (HBE.out.trans (hb.mono HBE.out.size)); clear hr hb hC)
        obtain ⟨wM, hwM⟩ : ∃ wM, w4.alloc (msgO m A6 k6) = wM := ⟨_, rfl⟩
        have HBM : Hid (Below w.heap.size w wM) := Lib.hid (by rw [← hwM]; exact HX4.out.alloc HX4.out.size _)
        rw [hwM]
        clear HGm hbe3 hwM
        go_wp2_with (go_at_call 47; refine (awake16_is _).mono ?_; rintro e w7 ⟨rfl, hb⟩; have HW7 := Lib.hid (HBM.out.trans (hb.mono HBM.out.size)); clear hb)
        go_ret
        exact ⟨rfl, HW7.out⟩
  · have hbe1 : (er == 0) = false := by simpa using h1
    clear hgd h1
    go_enter Try.func14, Try.ntmps14
    go_upto_region 11 with (go_at_call 63; refine HG.out.mono ?_; rintro e wD ⟨v, rfl, hr, hb⟩; obtain ⟨A4, k4, rfl, _, hC⟩ := TR.C hr; have HBD := Lib.hid hb; clear hr hb hC)
    clear HG hbe1
    have hG := getEntry_is wD A1 c1 b (Kd.C_below HC1.out HBD.out) hc1 HBB.out
    obtain ⟨⟨x, erx⟩, hgx⟩ : ∃ p, getEntryF b = p := ⟨_, rfl⟩
    rw [hgx] at hG
    simp only at hG
    have HGx := Lib.hid hG
    clear hG
    by_cases h2 : erx = 0
    · subst h2
      obtain ⟨h0, hbb⟩ := getEntry_one HBB.out hgx
      clear hgx
      go_upto_region 13 with (go_at_call 23; refine HGx.out.mono ?_; rintro e w4 ⟨v, rfl, ⟨u, rfl, hr⟩, hb⟩; obtain ⟨A6, k6, rfl, l6, hC⟩ := TR.C hr; have HR4 := Lib.hid hC; have HX4 := Lib.hid (HBD.out.trans (hb.mono HBD.out.size)); clear hr hb hC)
      obtain ⟨w5, hw5⟩ : ∃ w5, w4.alloc (entO x A6 k6) = w5 := ⟨_, rfl⟩
      have hE5 : EntAt w5 w4.heap.size x A6 k6 := by rw [← hw5]; exact World.alloc_heap_new w4 _
      have hb5 : Below w4.heap.size w4 w5 := by rw [← hw5]; exact (Below.refl _ _).alloc (Nat.le_refl _) _
      rw [hw5]
      have hD := putEntry_is x A6 k6 w5 (Kd.C_below HR4.out hb5) l6
      rw [h0, put_ent h0, hbb] at hD
      have HD := Lib.hid hD
      have HX5 := Lib.hid (HX4.out.trans (hb5.mono HX4.out.size))
      obtain ⟨q0, q1, q2, q3, q4, q5, q6, q7, q8, q9⟩ := hE5.c
      clear hD h0 hbb hb5 hE5 HGx hw5
      go_upto_region 14 with (go_at_call 19; refine HD.out.mono ?_; rintro e wE ⟨v, rfl, hr, hb⟩; obtain ⟨A7, k7, rfl, hk7, hC⟩ := BR.len hr; have HR7 := Lib.hid hC; have HBE := Lib.hid (HX5.out.trans (hb.mono HX5.out.size)); clear hr hb hC hk7)
      have t1 : (convert 27 9 (.slice A7 b.length k7)).run Try.prog wE = .ok (.string (strOfNums b)) wE := bstr_of HR7.out
      have t2 : (convert 27 9 (.slice A1 b.length c1)).run Try.prog wE = .ok (.string (strOfNums b)) wE := bstr_of (Kd.C_below HC1.out HBE.out)
      clear HD q0 q1 q2 q3 q4 q5 q6 q7 q8 q9
      go_upto_region 16 with (fail)
      clear t1 t2 HR7
      have hG := getMsg_is wE A1 c1 b (Kd.C_below HC1.out HBE.out) hc1 HBB.out
      obtain ⟨⟨m, erm⟩, hgm⟩ : ∃ p, getMsgF b = p := ⟨_, rfl⟩
      rw [hgm] at hG
      simp only at hG
      have HGm := Lib.hid hG
      clear hG
      by_cases h3 : erm = 0
      · subst h3
        obtain ⟨h0, hbb⟩ := getMsg_one HBB.out hgm
        clear hgm
        go_upto_region 18 with (go_at_call 66; refine HGm.out.mono ?_; rintro e w4 ⟨v, rfl, ⟨u, rfl, hr⟩, hb⟩; obtain ⟨A6, k6, rfl, l6, hC⟩ := ER.C hr; have HR4 := Lib.hid hC; have HX4 := Lib.hid (HBE.out.trans (hb.mono HBE.out.size)); clear hr hb hC)
        obtain ⟨w5, hw5⟩ : ∃ w5, w4.alloc (msgO m A6 k6) = w5 := ⟨_, rfl⟩
        have hE5 : MsgAt w5 w4.heap.size m.k m.who m.ver A6 m.l.length k6 := by rw [← hw5]; exact World.alloc_heap_new w4 _
        have hb5 : Below w4.heap.size w4 w5 := by rw [← hw5]; exact (Below.refl _ _).alloc (Nat.le_refl _) _
        rw [hw5]
        have hD := putMsg_is m A6 k6 w5 (Kd.C_below HR4.out hb5) l6
        rw [h0, put_msg h0, hbb] at hD
        have HD := Lib.hid hD
        have HX5 := Lib.hid (HX4.out.trans (hb5.mono HX4.out.size))
        obtain ⟨q0, q1, q2, q3⟩ := hE5.c
        clear hD h0 hbb hb5 hE5 HGm hw5
        go_upto_region 19 with (go_at_call 52; refine HD.out.mono ?_; rintro e wM ⟨v, rfl, hr, hb⟩; obtain ⟨A7, k7, rfl, hk7, hC⟩ := BR.len hr; have HR7 := Lib.hid hC; have HBM := Lib.hid (HX5.out.trans (hb.mono HX5.out.size)); clear hr hb hC hk7)
        have t1 : (convert 27 9 (.slice A7 b.length k7)).run Try.prog wM = .ok (.string (strOfNums b)) wM := bstr_of HR7.out
        have t2 : (convert 27 9 (.slice A1 b.length c1)).run Try.prog wM = .ok (.string (strOfNums b)) wM := bstr_of (Kd.C_below HC1.out HBM.out)
        clear HD q0 q1 q2 q3
        go_wp2_with (go_at_call 47; refine (awake16_is _).mono ?_; rintro e w7 ⟨rfl, hb⟩; have HW7 := Lib.hid (HBM.out.trans (hb.mono HBM.out.size)); clear hb)
        go_ret
        exact ⟨rfl, HW7.out⟩
      · have hbe3 : (erm == 0) = false := by simpa using h3
        clear hgm h3
        go_upto_region 21 with (go_at_call 66; refine HGm.out.mono ?_; rintro e w4 ⟨v, rfl, ⟨u, rfl, hr⟩, hb⟩; obtain ⟨A6, k6, rfl, l6, hC⟩ := ER.C hr; have HX4 := Lib.hid (HBE.out.trans (hb.mono HBE.out.size)); clear hr hb hC)
        obtain ⟨wM, hwM⟩ : ∃ wM, w4.alloc (msgO m A6 k6) = wM := ⟨_, rfl⟩
        have HBM : Hid (Below w.heap.size w wM) := Lib.hid (by rw [← hwM]; exact HX4.out.alloc HX4.out.size _)
        rw [hwM]
        clear HGm hbe3 hwM
        go_wp2_with (go_at_call 47; refine (awake16_is _).mono ?_; rintro e w7 ⟨rfl, hb⟩; have HW7 := Lib.hid (HBM.out.trans (hb.mono HBM.out.size)); clear hb)
        go_ret
        exact ⟨rfl, HW7.out⟩
    · have hbe2 : (erx == 0) = false := by simpa using h2
      clear hgx h2
      go_upto_region 16 with (go_at_call 23; refine HGx.out.mono ?_; rintro e w4 ⟨v, rfl, ⟨u, rfl, hr⟩, hb⟩; obtain ⟨A6, k6, rfl, l6, hC⟩ := TR.C hr; have HX4 := Lib.hid (HBD.out.trans (hb.mono HBD.out.size)); clear hr hb hC)
      obtain ⟨wE, hwE⟩ : ∃ wE, w4.alloc (entO x A6 k6) = wE := ⟨_, rfl⟩
      have HBE : Hid (Below w.heap.size w wE) := Lib.hid (by rw [← hwE]; exact HX4.out.alloc HX4.out.size _)
      rw [hwE]
      clear HGx hbe2 hwE
      have hG := getMsg_is wE A1 c1 b (Kd.C_below HC1.out HBE.out) hc1 HBB.out
      obtain ⟨⟨m, erm⟩, hgm⟩ : ∃ p, getMsgF b = p := ⟨_, rfl⟩
      rw [hgm] at hG
      simp only at hG
      have HGm := Lib.hid hG
      clear hG
      by_cases h3 : erm = 0
      · subst h3
        obtain ⟨h0, hbb⟩ := getMsg_one HBB.out hgm
        clear hgm
        go_upto_region 18 with (go_at_call 66; refine HGm.out.mono ?_; rintro e w4 ⟨v, rfl, ⟨u, rfl, hr⟩, hb⟩; obtain ⟨A6, k6, rfl, l6, hC⟩ := ER.C hr; have HR4 := Lib.hid hC; have HX4 := Lib.hid (HBE.out.trans (hb.mono HBE.out.size)); clear hr hb hC)
        obtain ⟨w5, hw5⟩ : ∃ w5, w4.alloc (msgO m A6 k6) = w5 := ⟨_, rfl⟩
        have hE5 : MsgAt w5 w4.heap.size m.k m.who m.ver A6 m.l.length k6 := by rw [← hw5]; exact World.alloc_heap_new w4 _
        have hb5 : Below w4.heap.size w4 w5 := by rw [← hw5]; exact (Below.refl _ _).alloc (Nat.le_refl _) _
        rw [hw5]
        have hD := putMsg_is m A6 k6 w5 (Kd.C_below HR4.out hb5) l6
        rw [h0, put_msg h0, hbb] at hD
        have HD := Lib.hid hD
        have HX5 := Lib.hid (HX4.out.trans (hb5.mono HX4.out.size))
        obtain ⟨q0, q1, q2, q3⟩ := hE5.c
        clear hD h0 hbb hb5 hE5 HGm hw5
        go_upto_region 19 with (go_at_call 52; refine HD.out.mono ?_; rintro e wM ⟨v, rfl, hr, hb⟩; obtain ⟨A7, k7, rfl, hk7, hC⟩ := BR.len hr; have HR7 := Lib.hid hC; have HBM := Lib.hid (HX5.out.trans (hb.mono HX5.out.size)); clear hr hb hC hk7)
        have t1 : (convert 27 9 (.slice A7 b.length k7)).run Try.prog wM = .ok (.string (strOfNums b)) wM := bstr_of HR7.out
        have t2 : (convert 27 9 (.slice A1 b.length c1)).run Try.prog wM = .ok (.string (strOfNums b)) wM := bstr_of (Kd.C_below HC1.out HBM.out)
        clear HD q0 q1 q2 q3
        go_wp2_with (go_at_call 47; refine (awake16_is _).mono ?_; rintro e w7 ⟨rfl, hb⟩; have HW7 := Lib.hid (HBM.out.trans (hb.mono HBM.out.size)); clear hb)
        go_ret
        exact ⟨rfl, HW7.out⟩
      · have hbe3 : (erm == 0) = false := by simpa using h3
        clear hgm h3
        go_upto_region 21 with (go_at_call 66; refine HGm.out.mono ?_; rintro e w4 ⟨v, rfl, ⟨u, rfl, hr⟩, hb⟩; obtain ⟨A6, k6, rfl, l6, hC⟩ := ER.C hr; have HX4 := Lib.hid (HBE.out.trans (hb.mono HBE.out.size)); clear hr hb hC)
        obtain ⟨wM, hwM⟩ : ∃ wM, w4.alloc (msgO m A6 k6) = wM := ⟨_, rfl⟩
        have HBM : Hid (Below w.heap.size w wM) := Lib.hid (by rw [← hwM]; exact HX4.out.alloc HX4.out.size _)
        rw [hwM]
        clear HGm hbe3 hwM
        go_wp2_with (go_at_call 47; refine (awake16_is _).mono ?_; rintro e w7 ⟨rfl, hb⟩; have HW7 := Lib.hid (HBM.out.trans (hb.mono HBM.out.size)); clear hb)
        go_ret
        exact ⟨rfl, HW7.out⟩
theorem bytes_wf {l : List Int} (h : ∀ x ∈ l, (Lit.int .u8 x).wf = true) : areBytesN l = true := by
  unfold areBytesN
  rw [List.all_eq_true]
  intro x hx
  have := Open.wf_u8 (h x hx)
  simp
  omega
theorem one_row (A1 : Option Addr) (c1 : Nat) (b : List Int) (w : World) (hr1 : Kd.C (Kd.int .u8) w A1 b.length b) (hc1 : b.length ≤ c1) (hw : b.length * 1 ≤ 140737488351232 ∧ ∀ x ∈ b, (Lit.int .u8 x).wf = true) :
    Calls Try.prog 14 #[.slice A1 b.length c1] w fun e w' => e = .returned (.bool true) ∧ Below w.heap.size w w' := one_walk A1 c1 b w hr1 hc1 (bytes_wf hw.2)
end Go.Proofs.Ytmbnjgnmblgjoaa.Man
end

-- LawCodecOne
section
-- Written by a program of this session (wip/tools/row5.py). Not trusted: Lean checks it.










namespace Go.Proofs.Ytmbnjgnmblgjoaa.codecOne
open Go.ChangeShapes Go.WideShapes Go.ChangeAt Go.RowKit Go.Proofs.Ytmbnjgnmblgjoaa.Open
open Go.ChangeMaps (open_string shut_string)
set_option linter.unusedVariables false
theorem own : ownKnob Try.prog.godebug = none := by kernel_rfl
theorem laidOut : laidOutB Try.prog = true := by kernel_rfl
set_option maxRecDepth 100000 in
theorem lifted (os : Os) (started : os.Started) (H : Type) (enc : TypeId × Value → H) :
    ReturnsInHanded {} Try.checked os 14 .any (Rows.codecOneSpec.pre6 enc Try.prog Try.f14 Rows.codecOneRow.domain false) (Rows.codecOneSpec.post enc Try.prog Try.f14 false true false false) := by
  refine returnsInHanded_of_change_sized (C := Try.checked) own started (by kernel_rfl) Try.func14
    (ChangeSpec.witness6 (enc := enc) (C := Try.checked) false ⟨#[], #[.slice none 0 0], []⟩ 12 (by kernel_rfl) (by kernel_rfl) (by kernel_rfl) (by kernel_rfl)) ?_
  intro W base args ds gs before hval0 hW hcnd hsz0 _
  have hsz : (DataW.weightsEach Try.prog (Try.f14.params.toList ++ Rows.codecOneSpec.plain.varTypes Try.prog) (ds ++ gs)).all (· ≤ reachBytes) = true := hsz0
  have hval : ∀ (j : Nat) t v, Try.f14.params[j]? = some t → args[j]? = some v → Value.okWide Try.prog W .any base t v := hval0
  have hW' := hW
  obtain ⟨p, q, hA0, hV, rfl, hfz, hnd⟩ := hW
  have hA : DataW.TrodAll enc Try.prog W 0 (fun _ => true) true Try.f14.params.toList args.toList ds p := hA0
  rw [Try.params14] at hA hval hsz
  obtain ⟨v0, vs0, d0, ds0, p0, q0, hargs, rfl, rfl, h0, r0⟩ := trodAll_cons hA
  obtain ⟨rfl, rfl, rfl⟩ := trodAll_nil r0
  obtain rfl : args = #[v0] := by cases args; simp_all
  obtain ⟨rfl, rfl⟩ := trodVars_none hV
  obtain ⟨a0, len0, cap0, rfl⟩ := okWide_slice Try.underlying27 (hval 0 27 v0 rfl rfl)
  obtain ⟨z0, rfl, c0, k0, w0, b0⟩ := Opens.slice_arg opens_bytes hsz (j := 0) (t := 27) rfl rfl h0
  have kt0 := h0
  have lt0 : ∀ x ∈ p0, x.block < W.heap.size := by obtain ⟨m, hm⟩ := kt0; exact DataW.trod_lt m _ _ _ hm
  clear hA0 hval0 hsz0 hsz
  refine (Man.one_row a0 cap0 z0 W k0 c0 w0).mono fun e W' ⟨he, bel⟩ => ?_
  subst he
  exact ⟨_, rfl, _, _, _, [], _, [], hW', trodAll_mk1 (shut_bool Try.underlying4 _), (trodAll_cons_mk (Below.trod laidOut (by kernel_rfl) (of_decide_eq_true (by kernel_rfl)) kt0 bel lt0) trodAll_mk0), rfl, bel.frame _, fun h => by cases h⟩
theorem over : Rows.codecOneRow.holds Try.pinned (OpenSpec.ofChange Rows.codecOneSpec) :=
  OpenClaim.holds_of_wide 14 Try.f14 rfl rfl rfl rfl rfl rfl rfl ⟨rfl, rfl, rfl, rfl, rfl⟩ rfl rfl rfl rfl rfl (by kernel_rfl) Try.func14 (by kernel_rfl)
    (of_decide_eq_true (by kernel_rfl)) (by unfold Func.isWrapper; first | (rw [if_pos (by decide +kernel)]; kernel_rfl) | (rw [if_neg (by decide +kernel)]; exact ⟨rfl, rfl⟩))
    (fun os started H enc _ => lifted os started H enc)
theorem proved : Rows.CodecOneSaid := over
#print axioms proved
end Go.Proofs.Ytmbnjgnmblgjoaa.codecOne
namespace Go.Proofs.Ytmbnjgnmblgjoaa
/-- The row, under a short name, for the claim. -/
theorem codecOne_holds : Rows.CodecOneSaid := codecOne.proved
end Go.Proofs.Ytmbnjgnmblgjoaa
end
