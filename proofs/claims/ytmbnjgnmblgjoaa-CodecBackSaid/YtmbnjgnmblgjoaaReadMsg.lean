/- codec's reader: a message. Printed by wip/tools/gen_readmsg.py. -/
import Derived.Test.YtmbnjgnmblgjoaaGetEnt
namespace Go.Proofs.Ytmbnjgnmblgjoaa.Man
open Go.RowKit Go.Proofs.YtmbnjgnmblgjoaaW.PrintWords Go.Proofs.YtmbnjgnmblgjoaaW.PrintLast Go.Proofs.YtmbnjgnmblgjoaaW.PrintMore
set_option linter.unusedVariables false
set_option linter.unusedSimpArgs false
set_option maxRecDepth 100000

/-- A row of entries of the call's own. -/
abbrev ER (w : World) (base : Nat) (v : Value) (xs : List K.S26) : Prop := Kd.R K.k26 26 w base (fun _ => True) v xs
theorem info_ent : (Try.prog.info? 26).map (fun i => (i.zero, i.size, i.bytes)) = some (some (.agg #[.int .i64 0, .int .i64 0, .int .i64 0, .int .i64 0, .int .i64 0, .int .i64 0, .int .i64 0, .int .i64 0, .slice none 0 0, .int .i64 0]), 10, 96) := by kernel_rfl
theorem ER.grown {w w1 : World} {base P : Nat} {v : Value} {xs : List K.S26} (h : ER w base v xs) (hg : w.grownBy w1 (some P)) (hP : P < base) : ER w1 base v xs :=
  Kd.R_mono (Kd.R_grown (Kd.R_bound h) hg (fun j hj e => by have h1 := hj.2.1; have h2 := Option.some.inj e; omega)) (fun _ _ => trivial)
theorem ER.set {w : World} {base E : Nat} {v : Value} {xs : List K.S26} (h : ER w base v xs) (hE : E < base) (k : Nat) (u : Value) : ER (w.setCell ⟨E, k, none⟩ u) base v xs := ER.grown h (grownBy_set w E k u (World.grownBy.refl w _)) hE
theorem ER.C {w : World} {base : Nat} {v : Value} {xs : List K.S26} (h : ER w base v xs) : ∃ A c, v = .slice A xs.length c ∧ xs.length ≤ c ∧ Kd.C K.k26 w A xs.length xs := Kd.R_reads h
theorem ER.lt {w : World} {base j : Nat} {v : Value} {xs : List K.S26} (h : ER w base v xs) (hj : v.ownBlock = some j) : j < w.heap.size := ((Kd.R_bound h).1 j hj).2.2.1
theorem TR.ge {w : World} {base j : Nat} {v : Value} {xs : List K.S111} (h : TR w base v xs) (hj : v.ownBlock = some j) : base ≤ j := ((Kd.R_bound h).1 j hj).2.1
theorem TR.tight {w : World} {base : Nat} {v : Value} {xs : List K.S111} (h : TR w base v xs) : Kd.R K.k111 111 w base (fun j => some j = v.ownBlock) v xs := Kd.R_tight rfl h
theorem rent_rest {b : List Int} {p : Nat} {x : K.S26} {r : List Int} (hB : areBytesN b = true) (hp : p ≤ b.length) (h : rent (b.drop p) = .ok (x, r)) : ∃ q, q ≤ b.length ∧ r = b.drop q ∧ b.length - r.length = q := by
  have h1 := (rent_inv (areBytesN_drop hB p) h).1
  have hl := congrArg List.length h1
  rw [List.length_drop, List.length_append] at hl
  have e : b = (b.take p ++ entryB x) ++ r := by rw [List.append_assoc, ← h1, List.take_append_drop]
  refine ⟨b.length - r.length, by omega, ?_, rfl⟩
  have e2 : b.length - r.length = (b.take p ++ entryB x).length := by rw [List.length_append, List.length_take]; omega
  rw [e2]
  have e3 := congrArg (List.drop (b.take p ++ entryB x).length) e
  rw [List.drop_left] at e3
  exact e3.symm
theorem RdP.ok_inv' {α : Type} {w : World} {P : Nat} {A : Option Addr} {c q : Nat} {b : List Int} {ret : α → Value → World → Prop} {x : α} {r : List Int} {e : Ending} {w' : World} (h : RdP w P A c b ret (.ok (x, r)) e w') (hq : b.length - r.length = q := by first | assumption | rfl) : ∃ v, e = .returned v ∧ ret x v w' ∧ SpotAt w' P A c b.length q ∧ w.grownBy w' (some P) := by
  obtain ⟨hg, v, he, hv, hs⟩ := h
  subst hq
  exact ⟨v, he, hv, hs, hg⟩

/-- What is older than w stays, but two blocks. -/
structure Kp2 (w W : World) (P V : Nat) : Prop where
  os : W.os = w.os
  tape : W.tape = w.tape
  output : W.output = w.output
  size : w.heap.size ≤ W.heap.size
  block : ∀ j, j < w.heap.size → j ≠ P → j ≠ V → W.heap[j]? = w.heap[j]?
theorem Kp2.refl (w : World) (P V : Nat) : Kp2 w w P V := ⟨rfl, rfl, rfl, Nat.le_refl _, fun _ _ _ _ => rfl⟩
theorem Kp2.num {w W W' : World} {P V : Nat} (h : Kp2 w W P V) (hg : W.grownBy W' (some P)) : Kp2 w W' P V :=
  ⟨hg.os.trans h.os, hg.tape.trans h.tape, hg.output.trans h.output, Nat.le_trans h.size hg.size, fun j hj h1 h2 => (hg.block j (Nat.lt_of_lt_of_le hj h.size) (fun e => h1 (Option.some.inj e))).trans (h.block j hj h1 h2)⟩
theorem Kp2.below {w W W' : World} {P V m : Nat} (h : Kp2 w W P V) (hb : Below m W W') (hm : w.heap.size ≤ m) : Kp2 w W' P V :=
  ⟨hb.os.trans h.os, hb.tape.trans h.tape, hb.output.trans h.output, Nat.le_trans h.size hb.size, fun j hj h1 h2 => (hb.block j (by omega)).trans (h.block j hj h1 h2)⟩
theorem Kp2.set {w W : World} {P V : Nat} (h : Kp2 w W P V) (k : Nat) (u : Value) : Kp2 w (W.setCell ⟨V, k, none⟩ u) P V :=
  ⟨h.os, h.tape, h.output, by simpa [World.setCell] using h.size, fun j hj h1 h2 => (heap_set_ne W V k j u h2).trans (h.block j hj h1 h2)⟩
theorem Kp2.old {w0 w W : World} {P V : Nat} (h : Kp2 w W P V) (hb : Below w0.heap.size w0 w) (hP : w0.heap.size ≤ P) (hV : w0.heap.size ≤ V) : Below w0.heap.size w0 W :=
  ⟨h.os.trans hb.os, h.tape.trans hb.tape, h.output.trans hb.output, Nat.le_trans hb.size h.size, fun j hj => (h.block j (Nat.lt_of_lt_of_le hj hb.size) (by omega) (by omega)).trans (hb.block j hj)⟩
/-- A message's block. -/
def MsgC (w : World) (V : Nat) (a0 a1 a2 : Int) (v : Value) : Prop := w.heap[V]? = some (.cells #[.int .i64 a0, .int .i64 a1, .int .i64 a2, v] 71 (0, 0))
theorem MsgC.lt {w : World} {V : Nat} {a0 a1 a2 : Int} {v : Value} (h : MsgC w V a0 a1 a2 v) : V < w.heap.size := (Array.getElem?_eq_some_iff.1 h).1
theorem MsgC.cells {w : World} {V : Nat} {a0 a1 a2 : Int} {v : Value} (h : MsgC w V a0 a1 a2 v) : w.cell? ⟨V, 0, none⟩ = some (.int .i64 a0) ∧ w.cell? ⟨V, 1, none⟩ = some (.int .i64 a1) ∧ w.cell? ⟨V, 2, none⟩ = some (.int .i64 a2) ∧ w.cell? ⟨V, 3, none⟩ = some v := by simp [World.cell?, show w.heap[V]? = _ from h]
theorem MsgC.f {w : World} {V : Nat} {a0 a1 a2 : Int} {v : Value} (h : MsgC w V a0 a1 a2 v) (i : Nat) : w.frozen? ⟨V, i, none⟩ = false := by simp [World.frozen?, show w.heap[V]? = _ from h]
theorem MsgC.put {w : World} {V : Nat} {a0 a1 a2 b0 b1 b2 : Int} {v v' : Value} (h : MsgC w V a0 a1 a2 v) (i : Nat) (u : Value) (he : (#[.int .i64 a0, .int .i64 a1, .int .i64 a2, v] : Array Value).setIfInBounds i u = #[.int .i64 b0, .int .i64 b1, .int .i64 b2, v']) : MsgC (w.setCell ⟨V, i, none⟩ u) V b0 b1 b2 v' := by
  unfold MsgC World.setCell
  unfold MsgC at h
  have he2 := congrArg Array.toList he
  simp [Array.getElem?_modify, h]
  simpa using he2
/-- What a reading of a message stands at. -/
structure MgS (w W : World) (P V : Nat) (A : Option Addr) (c n q : Nat) (a0 a1 a2 : Int) (v : Value) : Prop where
  spot : SpotAt W P A c n q
  ptr : PtrAt W w.heap.size P
  msg : MsgC W V a0 a1 a2 v
  kp : Kp2 w W P V
section
variable {w W W' : World} {P V c n q q' m : Nat} {A : Option Addr} {a0 a1 a2 b0 b1 b2 : Int} {v v' : Value}
theorem MgS.num (h : MgS w W P V A c n q a0 a1 a2 v) (hP : P < w.heap.size) (hVP : V ≠ P) (hk : SpotAt W' P A c n q') (hg : W.grownBy W' (some P)) : MgS w W' P V A c n q' a0 a1 a2 v :=
  ⟨hk, h.ptr.grown hg hP, (hg.block _ h.msg.lt (fun e => hVP (Option.some.inj e))).trans h.msg, h.kp.num hg⟩
theorem MgS.below (h : MgS w W P V A c n q a0 a1 a2 v) (hP : P < w.heap.size) (hVP : V ≠ P) (hb : Below W.heap.size W W') : MgS w W' P V A c n q a0 a1 a2 v :=
  h.num hP hVP (h.spot.below hb h.spot.lt) (grown_of_below hb _)
theorem MgS.drew (h : MgS w W P V A c n q a0 a1 a2 v) (hP : P < w.heap.size) (hVP : V ≠ P) : MgS w W.drew P V A c n q a0 a1 a2 v := h.below hP hVP (below_drew1 (Below.refl _ _))
theorem MgS.onB (h : MgS w W P V A c n q a0 a1 a2 v) (hP : P < w.heap.size) (hV : V < w.heap.size) (hb : Below (w.heap.size + 1) W W') : MgS w W' P V A c n q a0 a1 a2 v :=
  ⟨(hb.block _ (by omega)).trans h.spot, (hb.block _ (by omega)).trans h.ptr, (hb.block _ (by omega)).trans h.msg, h.kp.below hb (Nat.le_succ _)⟩
theorem MgS.f (h : MgS w W P V A c n q a0 a1 a2 v) (i : Nat) : W.frozen? ⟨V, i, none⟩ = false := h.msg.f i
theorem MgS.put (h : MgS w W P V A c n q a0 a1 a2 v) (hVP : V ≠ P) (hV : V < w.heap.size) (i : Nat) (u : Value) (he : (#[.int .i64 a0, .int .i64 a1, .int .i64 a2, v] : Array Value).setIfInBounds i u = #[.int .i64 b0, .int .i64 b1, .int .i64 b2, v']) : MgS w (W.setCell ⟨V, i, none⟩ u) P V A c n q b0 b1 b2 v' :=
  ⟨(heap_set_ne W V i P u (Ne.symm hVP)).trans h.spot, (heap_set_ne W V i _ u (by omega)).trans h.ptr, h.msg.put i u he, h.kp.set i u⟩
theorem MgS.c0 (h : MgS w W P V A c n q a0 a1 a2 v) : W.cell? ⟨V, 0, none⟩ = some (.int .i64 a0) := h.msg.cells.1
theorem MgS.c1 (h : MgS w W P V A c n q a0 a1 a2 v) : W.cell? ⟨V, 1, none⟩ = some (.int .i64 a1) := h.msg.cells.2.1
theorem MgS.c2 (h : MgS w W P V A c n q a0 a1 a2 v) : W.cell? ⟨V, 2, none⟩ = some (.int .i64 a2) := h.msg.cells.2.2.1
theorem MgS.c3 (h : MgS w W P V A c n q a0 a1 a2 v) : W.cell? ⟨V, 3, none⟩ = some v := h.msg.cells.2.2.2
end
/-- What the reading of a message leaves. -/
def MgP (w : World) (P V : Nat) (A : Option Addr) (c : Nat) (b : List Int) (res : Rd MsgL) (e : Ending) (w' : World) : Prop :=
  Kp2 w w' P V ∧ match res with
  | .error f => e = .panicked (errCh f)
  | .ok (m, r) => e = .returned (.tuple #[]) ∧ ∃ v, MsgC w' V m.k m.who m.ver v ∧ ER w' w.heap.size v m.l ∧ SpotAt w' P A c b.length (b.length - r.length)
theorem MgP.err {w : World} {P V : Nat} {A : Option Addr} {c : Nat} {b : List Int} {res : Rd MsgL} {f : Int} {w' : World} (hr : res = .error f) (hk : Kp2 w w' P V) : MgP w P V A c b res (.panicked (errCh f)) w' := by
  subst hr
  exact ⟨hk, rfl⟩
theorem MgP.ok {w w' : World} {P V q : Nat} {A : Option Addr} {c : Nat} {b : List Int} {res : Rd MsgL} {k who ver : Int} {xs : List K.S26} {r : List Int} {v : Value} (hr : res = .ok (⟨k, who, ver, xs⟩, r)) (h : MgS w w' P V A c b.length q k who ver v) (hl : ER w' w.heap.size v xs) (hq : b.length - r.length = q) : MgP w P V A c b res (.returned (.tuple #[])) w' := by
  subst hr
  subst hq
  exact ⟨h.kp, rfl, v, h.msg, hl, h.spot⟩
def msgR1.T : Bool × List (List Nat × List Nat) := (true, [([], []), ([0], [0]), ([1], [1]), ([], []), ([3], [3]), ([4, 2], [4]), ([], []), ([6], [6]), ([7, 5], [7]), ([0, 1, 2, 5, 8], []), ([9, 2, 8, 0, 1, 2, 5, 8], [2, 9]), ([0, 1, 2, 3, 4, 5, 8, 9, 10], []), ([11, 5, 10, 0, 1, 2, 3, 4, 5, 8, 9, 10], [5, 11]), ([0, 1, 2, 3, 4, 5, 6, 7, 8, 9, 10, 11, 12], []), ([13, 8, 12, 0, 1, 2, 3, 4, 5, 6, 7, 8, 9, 10, 11, 12], [8, 13])])
def msgR1.B : List Nat := [0, 1, 3, 0, 8, 31, 0, 64, 255, 511, 1023, 2047, 4095, 8191, 16383]
theorem msgR1.tab : rtab .any (opsOf Try.f130 1) = msgR1.T := by kernel_rfl
theorem msgR1.bits : waitsOk msgR1.T.2 msgR1.B = true := by kernel_rfl
def msgR4.T : Bool × List (List Nat × List Nat) := (true, [([], []), ([0], [0]), ([], []), ([2], [2]), ([3], [3]), ([1, 4, 3], [1, 4]), ([0, 1, 2, 3, 4, 5], []), ([6, 5, 5, 0, 1, 2, 3, 4, 5], [5, 6])])
def msgR4.B : List Nat := [0, 1, 0, 4, 12, 31, 63, 127]
theorem msgR4.tab : rtab .any (opsOf Try.f130 4) = msgR4.T := by kernel_rfl
theorem msgR4.bits : waitsOk msgR4.T.2 msgR4.B = true := by kernel_rfl
set_option maxHeartbeats 16000000 in
theorem smsg_is {w0 w : World} {P V c p : Nat} {A : Option Addr} {b : List Int} (hC : Kd.C (Kd.int .u8) w0 A b.length b) (hc : b.length ≤ c) (hB : areBytesN b = true) (hb : Below w0.heap.size w0 w) (hP : w0.heap.size ≤ P) (hV0 : w0.heap.size ≤ V) (hp : p ≤ b.length) (k : SpotAt w P A c b.length p) (hVP : V ≠ P) (hm : MsgC w V 0 0 0 (.slice none 0 0)) :
    Calls Try.prog 130 #[.agg #[.pointer (some ⟨P, 0, none⟩)], .pointer (some ⟨V, 0, none⟩)] w (MgP w P V A c b (rmsg (b.drop p))) := by
  have hPl := k.lt
  have hVl := hm.lt
  obtain ⟨w1, hw1⟩ : ∃ w1, w1 = w.alloc (.cells #[.pointer (some ⟨P, 0, none⟩)] 140) := ⟨_, rfl⟩
  have hb1 : Below w.heap.size w w1 := by rw [hw1]; exact (Below.refl _ _).alloc (Nat.le_refl _) _
  have hE1 : MgS w w1 P V A c b.length p 0 0 0 (.slice none 0 0) := ⟨k.below hb1 hPl, by rw [hw1]; exact World.alloc_heap_new w _, (hb1.block _ hVl).trans hm, (Kp2.refl w P V).below hb1 (Nat.le_refl _)⟩
  have HG0 := Lib.hid (fun (W : World) (hk : Kp2 w W P V) => Kd.C_below hC (hk.old hb hP hV0))
  have HG1 := Lib.hid (fun (W : World) (hk : Kp2 w W P V) => hk.old hb hP hV0)
  have HBB := Lib.hid hB
  have HC := Lib.hid hC
  obtain ⟨X, hX⟩ : ∃ X, rmsg (b.drop p) = X := ⟨_, rfl⟩
  rw [hX]
  unfold rmsg most at hX
  have HX0 := Lib.hid hX.symm
  have HE1 := Lib.hid (hE1.drew hPl hVP)
  have HW1 := Lib.hid hw1
  clear hC hB hb k hX hb1 hE1 hm
  go_enter Try.func130, Try.ntmps130
  go_upto_region 1 with (fail)
  rw [← HW1.out]
  clear hw1
  refine start_ (n := 15) (S := fun w' => w'.cell? ⟨w.heap.size, 0, none⟩ = some (.pointer (some ⟨P, 0, none⟩))) (ds := []) #[false, false, false, false, false, false, false, false, false, false, false, false, false, false, false] (by kernel_rfl) rfl rfl HE1.out.ptr.c0 (fun hHeld => ?_); refine with_tabW msgR1.tab msgR1.bits (fun HT_ HW_ => ?_)
  refine pure_ (i := 0) (N := (some 3)) (v := ?_) (a' := ?_) #[true, false, false, false, false, false, false, false, false, false, false, false, false, false, false] rfl rfl (any_of HT_.out (by kernel_rfl)) (fun _ _ _ h => h) (Or.inl ⟨by rfl, ?_⟩) ?_ ?_
  rotate_left
  · intro w'
    go_simp
    with_reducible rfl
  rotate_left
  · simp only [Act.put, List.setIfInBounds_toArray, List.set_cons_zero, List.set_cons_succ, i64_w, i32_w]
    rfl
  refine pure_ (i := 3) (N := (some 6)) (v := ?_) (a' := ?_) #[true, false, false, true, false, false, false, false, false, false, false, false, false, false, false] rfl rfl (any_of HT_.out (by kernel_rfl)) (fun _ _ _ h => h) (Or.inl ⟨by rfl, ?_⟩) ?_ ?_
  rotate_left
  · intro w'
    go_simp
    with_reducible rfl
  rotate_left
  · simp only [Act.put, List.setIfInBounds_toArray, List.set_cons_zero, List.set_cons_succ, i64_w, i32_w]
    rfl
  refine pure_ (i := 6) (N := (some 9)) (v := ?_) (a' := ?_) #[true, false, false, true, false, false, true, false, false, false, false, false, false, false, false] rfl rfl (any_of HT_.out (by kernel_rfl)) (fun _ _ _ h => h) (Or.inl ⟨by rfl, ?_⟩) ?_ ?_
  rotate_left
  · intro w'
    go_simp
    with_reducible rfl
  rotate_left
  · simp only [Act.put, List.setIfInBounds_toArray, List.set_cons_zero, List.set_cons_succ, i64_w, i32_w]
    rfl
  refine take_ (i := 1) (N := (some 4)) (v := ?_) (a' := ?_) #[true, true, false, true, false, false, true, false, false, false, false, false, false, false, false] rfl rfl (take_ofW HT_.out HW_.out (by kernel_rfl)) (fun _ _ _ h => h) (Or.inl ⟨by rfl, ?_⟩) hHeld ?_ ?_
  rotate_left
  · rintro w' s0
    go_simp
    with_reducible rfl
  rotate_left
  · simp only [Act.put, List.setIfInBounds_toArray, List.set_cons_zero, List.set_cons_succ, i64_w, i32_w]
    rfl
  refine take_ (i := 4) (N := (some 7)) (v := ?_) (a' := ?_) #[true, true, false, true, true, false, true, false, false, false, false, false, false, false, false] rfl rfl (take_ofW HT_.out HW_.out (by kernel_rfl)) (fun _ _ _ h => h) (Or.inl ⟨by rfl, ?_⟩) hHeld ?_ ?_
  rotate_left
  · rintro w' s0
    go_simp
    with_reducible rfl
  rotate_left
  · simp only [Act.put, List.setIfInBounds_toArray, List.set_cons_zero, List.set_cons_succ, i64_w, i32_w]
    rfl
  refine take_ (i := 7) (N := (some 10)) (v := ?_) (a' := ?_) #[true, true, false, true, true, false, true, true, false, false, false, false, false, false, false] rfl rfl (take_ofW HT_.out HW_.out (by kernel_rfl)) (fun _ _ _ h => h) (Or.inl ⟨by rfl, ?_⟩) hHeld ?_ ?_
  rotate_left
  · rintro w' s0
    go_simp
    with_reducible rfl
  rotate_left
  · simp only [Act.put, List.setIfInBounds_toArray, List.set_cons_zero, List.set_cons_succ, i64_w, i32_w]
    rfl
  refine one_ (i := 2) (N := (some 5)) #[true, true, true, true, true, false, true, true, false, false, false, false, false, false, false] rfl rfl (one_of HT_.out (by kernel_rfl)) (by decide) (fun K hK => ?_)
  have hX := HX0.out
  rcases hres : rnum 2147483647 (b.drop p) with f | ⟨k, r⟩
  · rw [hres, bnd_err] at hX
    refine goesP_ Try.func131 (by kernel_rfl) rfl #[.pointer (some ⟨P, 0, none⟩), .int .i64 2147483647] (by rfl) rfl rfl (by (try simp only [List.map_toArray, List.map_cons, List.map_nil]); first | done | rfl) ?_
    refine (snum_err HE1.out.spot (HG0.out _ HE1.out.kp) hc HBB.out hp 2147483647 (by decide) (by decide) f hres).mono ?_
    rintro e w' ⟨rfl, hg⟩
    exact .inr ⟨_, rfl, And.intro rfl (MgP.err hX (HE1.out.kp.num hg))⟩
  obtain ⟨q1, hq1, rfl, hql, hn0k, hn1k⟩ := rnum_rest HBB.out hp hres
  rw [hres, bnd_ok] at hX
  have HX1 := Lib.hid hX
  refine goesP_ Try.func131 (by kernel_rfl) rfl #[.pointer (some ⟨P, 0, none⟩), .int .i64 2147483647] (by rfl) rfl rfl (by (try simp only [List.map_toArray, List.map_cons, List.map_nil]); first | done | rfl) ?_
  refine (snum_ok HE1.out.spot (HG0.out _ HE1.out.kp) hc HBB.out hp 2147483647 (by decide) (by decide) k _ hres).mono ?_
  rintro e v2 ⟨rfl, hk, hg⟩
  rw [hql] at hk
  have HE2 := Lib.hid (HE1.out.num hPl hVP hk hg)
  clear hk hg hres hX hql HX0 HE1
  refine .inl ⟨_, rfl, ?_⟩
  refine hK.out _ _ HE2.out.ptr.c0 (fun hHeld => ?_)
  clear hK K
  refine norm_ (a' := ?_) ?_ ?_
  rotate_left
  · show Act.put _ (some 5) _ = _
    simp only [Act.put, List.setIfInBounds_toArray, List.set_cons_zero, List.set_cons_succ, i64_w, i32_w]
    rfl
  refine one_ (i := 5) (N := (some 8)) #[true, true, true, true, true, true, true, true, false, false, false, false, false, false, false] rfl rfl (one_of HT_.out (by kernel_rfl)) (by decide) (fun K hK => ?_)
  have hX := HX1.out
  rcases hres : rnum 2147483647 (b.drop q1) with f | ⟨who, r⟩
  · rw [hres, bnd_err] at hX
    refine goesP_ Try.func131 (by kernel_rfl) rfl #[.pointer (some ⟨P, 0, none⟩), .int .i64 2147483647] (by rfl) rfl rfl (by (try simp only [List.map_toArray, List.map_cons, List.map_nil]); first | done | rfl) ?_
    refine (snum_err HE2.out.spot (HG0.out _ HE2.out.kp) hc HBB.out hq1 2147483647 (by decide) (by decide) f hres).mono ?_
    rintro e w' ⟨rfl, hg⟩
    exact .inr ⟨_, rfl, And.intro rfl (MgP.err hX (HE2.out.kp.num hg))⟩
  obtain ⟨q2, hq2, rfl, hql, hn0who, hn1who⟩ := rnum_rest HBB.out hq1 hres
  rw [hres, bnd_ok] at hX
  have HX2 := Lib.hid hX
  refine goesP_ Try.func131 (by kernel_rfl) rfl #[.pointer (some ⟨P, 0, none⟩), .int .i64 2147483647] (by rfl) rfl rfl (by (try simp only [List.map_toArray, List.map_cons, List.map_nil]); first | done | rfl) ?_
  refine (snum_ok HE2.out.spot (HG0.out _ HE2.out.kp) hc HBB.out hq1 2147483647 (by decide) (by decide) who _ hres).mono ?_
  rintro e v3 ⟨rfl, hk, hg⟩
  rw [hql] at hk
  have HE3 := Lib.hid (HE2.out.num hPl hVP hk hg)
  clear hk hg hres hX hql HX1 HE2
  refine .inl ⟨_, rfl, ?_⟩
  refine hK.out _ _ HE3.out.ptr.c0 (fun hHeld => ?_)
  clear hK K
  refine norm_ (a' := ?_) ?_ ?_
  rotate_left
  · show Act.put _ (some 8) _ = _
    simp only [Act.put, List.setIfInBounds_toArray, List.set_cons_zero, List.set_cons_succ, i64_w, i32_w]
    rfl
  refine one_ (i := 8) (N := (some 11)) #[true, true, true, true, true, true, true, true, true, false, false, false, false, false, false] rfl rfl (one_of HT_.out (by kernel_rfl)) (by decide) (fun K hK => ?_)
  have hX := HX2.out
  rcases hres : rnum 2147483647 (b.drop q2) with f | ⟨ver, r⟩
  · rw [hres, bnd_err] at hX
    refine goesP_ Try.func131 (by kernel_rfl) rfl #[.pointer (some ⟨P, 0, none⟩), .int .i64 2147483647] (by rfl) rfl rfl (by (try simp only [List.map_toArray, List.map_cons, List.map_nil]); first | done | rfl) ?_
    refine (snum_err HE3.out.spot (HG0.out _ HE3.out.kp) hc HBB.out hq2 2147483647 (by decide) (by decide) f hres).mono ?_
    rintro e w' ⟨rfl, hg⟩
    exact .inr ⟨_, rfl, And.intro rfl (MgP.err hX (HE3.out.kp.num hg))⟩
  obtain ⟨q3, hq3, rfl, hql, hn0ver, hn1ver⟩ := rnum_rest HBB.out hq2 hres
  rw [hres, bnd_ok] at hX
  have HX3 := Lib.hid hX
  refine goesP_ Try.func131 (by kernel_rfl) rfl #[.pointer (some ⟨P, 0, none⟩), .int .i64 2147483647] (by rfl) rfl rfl (by (try simp only [List.map_toArray, List.map_cons, List.map_nil]); first | done | rfl) ?_
  refine (snum_ok HE3.out.spot (HG0.out _ HE3.out.kp) hc HBB.out hq2 2147483647 (by decide) (by decide) ver _ hres).mono ?_
  rintro e v4 ⟨rfl, hk, hg⟩
  rw [hql] at hk
  have HE4 := Lib.hid (HE3.out.num hPl hVP hk hg)
  clear hk hg hres hX hql HX2 HE3
  refine .inl ⟨_, rfl, ?_⟩
  refine hK.out _ _ HE4.out.ptr.c0 (fun hHeld => ?_)
  clear hK K
  refine norm_ (a' := ?_) ?_ ?_
  rotate_left
  · show Act.put _ (some 11) _ = _
    simp only [Act.put, List.setIfInBounds_toArray, List.set_cons_zero, List.set_cons_succ, i64_w, i32_w]
    rfl
  refine pure_ (i := 9) (N := (some 12)) (v := ?_) (a' := ?_) #[true, true, true, true, true, true, true, true, true, true, false, false, false, false, false] rfl rfl (any_of HT_.out (by kernel_rfl)) (fun _ _ _ h => h) (Or.inl ⟨by rfl, ?_⟩) ?_ ?_
  rotate_left
  · intro w'
    go_simp
    with_reducible rfl
  rotate_left
  · simp only [Act.put, List.setIfInBounds_toArray, List.set_cons_zero, List.set_cons_succ, i64_w, i32_w]
    rfl
  refine one_ (i := 10) (N := none) #[true, true, true, true, true, true, true, true, true, true, true, false, false, false, false] rfl rfl (one_of HT_.out (by kernel_rfl)) (by decide) (fun K hK => ?_)
  have hcc := HE4.out.c0
  have hff := HE4.out.f 0
  refine skip_ (w1 := (v4.setCell ⟨V, 0, none⟩ (.int .i64 k))) (by rfl) rfl ?_ ?_
  · go_simp
    try rfl
  have HE5 : Hid (MgS w (v4.setCell ⟨V, 0, none⟩ (.int .i64 k)) P V A c b.length q3 k 0 0 (.slice none 0 0)) := Lib.hid (HE4.out.put hVP hVl 0 (.int .i64 k) rfl)
  clear hcc hff HE4
  refine hK.out _ _ HE5.out.ptr.c0 (fun hHeld => ?_)
  clear hK K
  refine pure_ (i := 11) (N := (some 13)) (v := ?_) (a' := ?_) #[true, true, true, true, true, true, true, true, true, true, true, true, false, false, false] rfl rfl (any_of HT_.out (by kernel_rfl)) (fun _ _ _ h => h) (Or.inl ⟨by rfl, ?_⟩) ?_ ?_
  rotate_left
  · intro w'
    go_simp
    with_reducible rfl
  rotate_left
  · simp only [Act.put, List.setIfInBounds_toArray, List.set_cons_zero, List.set_cons_succ, i64_w, i32_w]
    rfl
  refine one_ (i := 12) (N := none) #[true, true, true, true, true, true, true, true, true, true, true, true, true, false, false] rfl rfl (one_of HT_.out (by kernel_rfl)) (by decide) (fun K hK => ?_)
  have hcc := HE5.out.c1
  have hff := HE5.out.f 1
  refine skip_ (w1 := ((v4.setCell ⟨V, 0, none⟩ (.int .i64 k)).setCell ⟨V, 1, none⟩ (.int .i64 who))) (by rfl) rfl ?_ ?_
  · go_simp
    try rfl
  have HE6 : Hid (MgS w ((v4.setCell ⟨V, 0, none⟩ (.int .i64 k)).setCell ⟨V, 1, none⟩ (.int .i64 who)) P V A c b.length q3 k who 0 (.slice none 0 0)) := Lib.hid (HE5.out.put hVP hVl 1 (.int .i64 who) rfl)
  clear hcc hff HE5
  refine hK.out _ _ HE6.out.ptr.c0 (fun hHeld => ?_)
  clear hK K
  refine pure_ (i := 13) (N := (some 14)) (v := ?_) (a' := ?_) #[true, true, true, true, true, true, true, true, true, true, true, true, true, true, false] rfl rfl (any_of HT_.out (by kernel_rfl)) (fun _ _ _ h => h) (Or.inl ⟨by rfl, ?_⟩) ?_ ?_
  rotate_left
  · intro w'
    go_simp
    with_reducible rfl
  rotate_left
  · simp only [Act.put, List.setIfInBounds_toArray, List.set_cons_zero, List.set_cons_succ, i64_w, i32_w]
    rfl
  refine one_ (i := 14) (N := none) #[true, true, true, true, true, true, true, true, true, true, true, true, true, true, true] rfl rfl (one_of HT_.out (by kernel_rfl)) (by decide) (fun K hK => ?_)
  have hcc := HE6.out.c2
  have hff := HE6.out.f 2
  refine skip_ (w1 := (((v4.setCell ⟨V, 0, none⟩ (.int .i64 k)).setCell ⟨V, 1, none⟩ (.int .i64 who)).setCell ⟨V, 2, none⟩ (.int .i64 ver))) (by rfl) rfl ?_ ?_
  · go_simp
    try rfl
  have HE7 : Hid (MgS w (((v4.setCell ⟨V, 0, none⟩ (.int .i64 k)).setCell ⟨V, 1, none⟩ (.int .i64 who)).setCell ⟨V, 2, none⟩ (.int .i64 ver)) P V A c b.length q3 k who ver (.slice none 0 0)) := Lib.hid (HE6.out.put hVP hVl 2 (.int .i64 ver) rfl)
  clear hcc hff HE6
  refine hK.out _ _ HE7.out.ptr.c0 (fun hHeld => ?_)
  clear hK K
  refine done_ (done_of HT_.out (by kernel_rfl)) ?_
  obtain ⟨w2, hw2⟩ : ∃ w2, (((v4.setCell ⟨V, 0, none⟩ (.int .i64 k)).setCell ⟨V, 1, none⟩ (.int .i64 who)).setCell ⟨V, 2, none⟩ (.int .i64 ver)) = w2 := ⟨_, rfl⟩
  rw [hw2] at HE7 ⊢
  clear hw2
  have r0 := HE7.out.ptr.c0
  have hX := HX3.out
  rcases hres : rnum 1024 (b.drop q3) with f | ⟨n, r⟩
  · rw [hres, bnd_err] at hX
    have HN := Lib.hid (snum_err HE7.out.spot (HG0.out _ HE7.out.kp) hc HBB.out hq3 1024 (by decide) (by decide) f hres)
    have HX := Lib.hid hX
    clear hX hres HX3
    go_wp2_with (go_at_call 131; refine HN.out.mono ?_; rintro e w3 ⟨rfl, hg⟩; have HK3 := Lib.hid (HE7.out.kp.num hg); clear hg)
    exact ⟨rfl, MgP.err HX.out HK3.out⟩
  · obtain ⟨q9, hq9, rfl, hql, hn0, hn1⟩ := rnum_rest HBB.out hq3 hres
    have hN := snum_ok HE7.out.spot (HG0.out _ HE7.out.kp) hc HBB.out hq3 1024 (by decide) (by decide) n _ hres
    rw [hql] at hN
    rw [hres, bnd_ok] at hX
    obtain ⟨N, rfl⟩ : ∃ N : Nat, n = (N : Int) := ⟨n.toNat, by omega⟩
    rw [Int.toNat_natCast] at hX
    have HN := Lib.hid hN
    have HX := Lib.hid hX
    clear hX hres HX3 hN
    go_wp2_with (go_at_call 131; refine HN.out.mono ?_; rintro e w3 ⟨rfl, hk, hg⟩; have HE30 := Lib.hid (HE7.out.num hPl hVP hk hg); clear hk hg)
    go_loopg [18] N (fun g s18 wr => ∃ (i q1 : Nat) (v : Value) (ys : List K.S26), s18 = .int .i64 i ∧ i ≤ N ∧ g = N - i ∧ q1 ≤ b.length ∧ ys.length = i ∧ Hid (X = bnd (bnd (rents (N - i) (b.drop q1)) fun zs l => .ok (ys ++ zs, l)) fun xs l => .ok (⟨k, who, ver, xs⟩, l)) ∧ Hid (MgS w wr P V A c b.length q1 k who ver v) ∧ Hid (ER wr (w.heap.size + 1) v ys))
    case atStart => exact ⟨0, q9, _, [], rfl, Nat.zero_le _, rfl, hq9, rfl, Lib.hid (by
      rw [HX.out, Nat.sub_zero]
      rcases rents N (b.drop q9) with f | ⟨zs, l⟩
      · rfl
      · rfl), HE30, Lib.hid (Kd.R_nil _ _ _ _ _)⟩
    case round =>
      clear HX HE30 HN hql hq9 HE7 r0
      obtain ⟨i, q1, v, ys, rfl, hi, hg, hq1, hyl, HX, HE, HED0⟩ := hrel
      by_cases hlt : i < N
      · obtain ⟨d, hd⟩ : ∃ d, N - i = d + 1 := ⟨N - i - 1, by omega⟩
        have hd2 : N - (i + 1) = d := by omega
        have HD := Lib.hid (HE.out.drew hPl hVP)
        have HED := Lib.hid (ER.grown HED0.out (grown_of_below (below_drew1 (Below.refl wr.heap.size wr)) (some P)) (by omega))
        have hcall := sent_is HC.out hc HBB.out (HG1.out _ HD.out.kp) hP HD.out.spot hq1
        have HRZ : Hid (w.heap.size + 1 ≤ wr.drew.heap.size) := Lib.hid HD.out.ptr.lt
        go_upto_region 4 with (fail)
        refine start_ (n := 8) (S := fun w' => w'.cell? ⟨w.heap.size, 0, none⟩ = some (.pointer (some ⟨P, 0, none⟩)) ∧ w'.cell? ⟨V, 3, none⟩ = some v) (ds := [7]) #[false, false, false, false, false, false, false, false] (by kernel_rfl) rfl rfl ⟨HD.out.ptr.c0, HD.out.c3⟩ (fun hHeld => ?_); refine with_tabW msgR4.tab msgR4.bits (fun HT_ HW_ => ?_)
        refine pure_ (i := 0) (N := (some 20)) (v := ?_) (a' := ?_) #[true, false, false, false, false, false, false, false] rfl rfl (any_of HT_.out (by kernel_rfl)) (fun _ _ _ h => h) (Or.inl ⟨by rfl, ?_⟩) ?_ ?_
        rotate_left
        · intro w'
          go_simp
          with_reducible rfl
        rotate_left
        · simp only [Act.put, List.setIfInBounds_toArray, List.set_cons_zero, List.set_cons_succ, i64_w, i32_w]
          rfl
        refine take_ (i := 1) (N := (some 21)) (v := ?_) (a' := ?_) #[true, true, false, false, false, false, false, false] rfl rfl (take_ofW HT_.out HW_.out (by kernel_rfl)) (fun _ _ _ h => h) (Or.inl ⟨by rfl, ?_⟩) hHeld ?_ ?_
        rotate_left
        · rintro w' ⟨s0, s1⟩
          go_simp
          with_reducible rfl
        rotate_left
        · simp only [Act.put, List.setIfInBounds_toArray, List.set_cons_zero, List.set_cons_succ, i64_w, i32_w]
          rfl
        refine take_ (i := 2) (N := (some 22)) (v := ?_) (a' := ?_) #[true, true, true, false, false, false, false, false] rfl rfl (take_ofW HT_.out HW_.out (by kernel_rfl)) (fun _ _ _ h => h) (Or.inl ⟨by rfl, ?_⟩) hHeld ?_ ?_
        rotate_left
        · rintro w' ⟨s0, s1⟩
          go_simp
          with_reducible rfl
        rotate_left
        · simp only [Act.put, List.setIfInBounds_toArray, List.set_cons_zero, List.set_cons_succ, i64_w, i32_w]
          rfl
        refine one_ (i := 3) (N := (some 23)) #[true, true, true, true, false, false, false, false] rfl rfl (one_of HT_.out (by kernel_rfl)) (by decide) (fun K hK => ?_)
        have hX := HX.out
        rw [hd, rents] at hX
        rcases hres : rent (b.drop q1) with f | ⟨x, r⟩
        · rw [hres, bnd_err, bnd_err, bnd_err] at hX
          rw [hres] at hcall
          refine goesP_ Try.func94 (by kernel_rfl) rfl #[.agg #[.pointer (some ⟨P, 0, none⟩)]] (by rfl) rfl rfl (by (try simp only [List.map_toArray, List.map_cons, List.map_nil]); first | done | rfl) ?_
          refine hcall.mono ?_
          intro e w' h1
          obtain ⟨rfl, hg⟩ := h1.err_inv
          exact .inr ⟨_, rfl, And.intro rfl (MgP.err hX (HD.out.kp.num hg))⟩
        rw [hres, bnd_ok] at hX
        rw [hres] at hcall
        obtain ⟨q2, hq2, rfl, hql⟩ := rent_rest HBB.out hq1 hres
        have HXN : Hid (X = bnd (bnd (rents (N - (i + 1)) (b.drop q2)) fun zs l => .ok ((ys ++ [x]) ++ zs, l)) fun xs l => .ok (⟨k, who, ver, xs⟩, l)) := Lib.hid (by rw [hd2, ← bnd_snoc]; exact hX)
        refine goesP_ Try.func94 (by kernel_rfl) rfl #[.agg #[.pointer (some ⟨P, 0, none⟩)]] (by rfl) rfl rfl (by (try simp only [List.map_toArray, List.map_cons, List.map_nil]); first | done | rfl) ?_
        refine hcall.mono ?_
        intro e w3 h1
        obtain ⟨_, rfl, ⟨u, rfl, ht⟩, hk, hg⟩ := h1.ok_inv'
        obtain ⟨Au, cu, rfl, _, _⟩ := ht.C
        have HE3 := Lib.hid (HD.out.num hPl hVP hk hg)
        have HT3 := Lib.hid ht
        have HL3 := Lib.hid (ER.grown HED.out hg (by omega))
        have HZ3 := Lib.hid hg.size
        clear hres hX hcall hk hg ht h1
        refine .inl ⟨_, rfl, ?_⟩
        refine hK.out _ _ ⟨HE3.out.ptr.c0, HE3.out.c3⟩ (fun hHeld => ?_)
        clear hK K
        refine norm_ (a' := ?_) ?_ ?_
        rotate_left
        · show Act.put _ (some 23) _ = _
          simp only [Act.put, List.setIfInBounds_toArray, List.set_cons_zero, List.set_cons_succ, i64_w, i32_w]
          rfl
        refine one_ (i := 4) (N := (some 24)) #[true, true, true, true, true, false, false, false] rfl rfl (one_of HT_.out (by kernel_rfl)) (by decide) (fun K hK => ?_)
        refine value_ (w1 := w3.alloc (.cells #[.int .i64 x.f0, .int .i64 x.f1, .int .i64 x.f2.f0, .int .i64 x.f2.f1, .int .i64 x.f2.f2, .int .i64 x.f2.f3, .int .i64 x.f2.f4, .int .i64 x.f2.f5, .slice Au x.f2.f6.length cu, .int .i64 x.f2.f7] 26)) (v := .slice (some ⟨w3.heap.size, 0, none⟩) 1 1) (by rfl) rfl ?_ ?_
        · go_simp
          try rfl
        have hbx : Below w3.heap.size w3 (w3.alloc (.cells #[.int .i64 x.f0, .int .i64 x.f1, .int .i64 x.f2.f0, .int .i64 x.f2.f1, .int .i64 x.f2.f2, .int .i64 x.f2.f3, .int .i64 x.f2.f4, .int .i64 x.f2.f5, .slice Au x.f2.f6.length cu, .int .i64 x.f2.f7] 26)) := (Below.refl _ _).alloc (Nat.le_refl _) _
        have HE4 := Lib.hid (HE3.out.below hPl hVP hbx)
        clear hbx
        refine hK.out _ _ ⟨HE4.out.ptr.c0, HE4.out.c3⟩ (fun hHeld => ?_)
        clear hK K
        refine norm_ (a' := ?_) ?_ ?_
        rotate_left
        · show Act.put _ (some 24) _ = _
          simp only [Act.put, List.setIfInBounds_toArray, List.set_cons_zero, List.set_cons_succ, i64_w, i32_w]
          rfl
        refine one_ (i := 5) (N := (some 25)) #[true, true, true, true, true, true, false, false] rfl rfl (one_of HT_.out (by kernel_rfl)) (by decide) (fun K hK => ?_)
        refine Kd.R_append_step Go.Proofs.Ytmbnjgnmblgjoaa.K.k26 (w0 := w3) (W := w3) (w.heap.size + 1) (by rfl) (.tmp 21) (.tmp 24) 69 26 (.agg #[.int .i64 0, .int .i64 0, .int .i64 0, .int .i64 0, .int .i64 0, .int .i64 0, .int .i64 0, .int .i64 0, .slice none 0 0, .int .i64 0]) 96 rfl Try.underlying69 info_ent rfl (by decide) (by decide) v ys x [.int .i64 x.f0, .int .i64 x.f1, .int .i64 x.f2.f0, .int .i64 x.f2.f1, .int .i64 x.f2.f2, .int .i64 x.f2.f3, .int .i64 x.f2.f4, .int .i64 x.f2.f5, .slice Au x.f2.f6.length cu, .int .i64 x.f2.f7] (fun _ => True) (fun j => some j = (Value.slice Au x.f2.f6.length cu).ownBlock) rfl rfl (Go.Proofs.Ytmbnjgnmblgjoaa.K.k26_mkM _ _ _ _ (TR.tight (Kd.R_lower HT3.out (by have := HRZ.out; omega)))) ?_ (fun _ _ => trivial) HL3.out (Below.refl _ _) (by have := HZ3.out; have := HRZ.out; omega) (by omega) ?_
        · intro j hj
          refine ⟨trivial, fun e => ?_⟩
          have h1 := ER.lt HED.out e.symm
          have h2 := TR.ge HT3.out hj.symm
          omega
        intro v4 w4 hr4 hb4 hg4 hat4
        obtain ⟨zs, hzs⟩ : ∃ zs, ys ++ [x] = zs := ⟨_, rfl⟩
        rw [hzs] at hr4 HXN
        have hzl : zs.length = i + 1 := by rw [← hzs, List.length_append, hyl]; rfl
        obtain ⟨A5, k5, rfl, _, _⟩ := ER.C hr4
        have HZL := Lib.hid hzl
        clear hzs hzl
        have HE5 := Lib.hid (HE3.out.onB hPl hVl hb4)
        have HL5 := Lib.hid hr4
        clear hr4 hb4 hg4 hat4
        refine hK.out _ _ ⟨HE5.out.ptr.c0, HE5.out.c3⟩ (fun hHeld => ?_)
        clear hK K
        refine norm_ (a' := ?_) ?_ ?_
        rotate_left
        · show Act.put _ (some 25) _ = _
          simp only [Act.put, List.setIfInBounds_toArray, List.set_cons_zero, List.set_cons_succ, i64_w, i32_w]
          rfl
        refine pure_ (i := 6) (N := (some 26)) (v := ?_) (a' := ?_) #[true, true, true, true, true, true, true, false] rfl rfl (any_of HT_.out (by kernel_rfl)) (fun _ _ _ h => h) (Or.inl ⟨by rfl, ?_⟩) ?_ ?_
        rotate_left
        · intro w'
          go_simp
          with_reducible rfl
        rotate_left
        · simp only [Act.put, List.setIfInBounds_toArray, List.set_cons_zero, List.set_cons_succ, i64_w, i32_w]
          rfl
        refine last_ (i := 7) (N := none) #[true, true, true, true, true, true, true, true] rfl rfl (one_of HT_.out (by kernel_rfl)) (by decide) (fun K hK => ?_)
        have hcc := HE5.out.c3
        have hff := HE5.out.f 3
        refine skip_ (w1 := w4.setCell ⟨V, 3, none⟩ (.slice A5 zs.length k5)) (by rfl) rfl ?_ ?_
        · go_simp
          try rfl
        have HE6 : Hid (MgS w (w4.setCell ⟨V, 3, none⟩ (.slice A5 zs.length k5)) P V A c b.length q2 k who ver (.slice A5 zs.length k5)) := Lib.hid (HE5.out.put hVP hVl 3 (.slice A5 zs.length k5) rfl)
        have HL6 := Lib.hid (ER.set HL5.out (E := V) (by omega) 3 (.slice A5 zs.length k5))
        clear hcc hff HE3 HE4 HE5 HL3 HL5 HT3
        refine hK.out _ _ ?_
        clear hK K
        refine done_ (done_of HT_.out (by kernel_rfl)) ?_
        clear HX HE HED0 HD HED
        go_wp2
        go_roundg (N - (i + 1))
        case measure => omega
        case rel => exact ⟨i + 1, q2, _, zs, by go_num, by omega, rfl, hq2, HZL.out, HXN, HE6, HL6⟩
      · obtain rfl : i = N := by omega
        have hX := HX.out
        rw [Nat.sub_self, rents, bnd_ok, bnd_ok, List.append_nil] at hX
        have HXX := Lib.hid hX
        clear hX HX
        go_wp2
        go_end0
        exact MgP.ok HXX.out HE.out (Kd.R_lower HED0.out (Nat.le_succ _)) (by rw [List.length_drop]; omega)
end Go.Proofs.Ytmbnjgnmblgjoaa.Man
