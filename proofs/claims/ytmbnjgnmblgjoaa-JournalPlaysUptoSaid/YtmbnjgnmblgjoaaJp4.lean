/- JournalPlays (Upto): any acts (Append, Sync, Crash, Cut) on a journal over a disk that held any bytes tell, act by act, what the document's journal tells. Conditions: the statement's own, no others. -/
-- Laid together by a program of this session (wip/tools/shake.py). Not trusted: Lean checks it.
import Derived.Test.YtmbnjgnmblgjoaaJp3
section
namespace Go.Proofs.Ytmbnjgnmblgjoaa.Man
open Go.RowKit Go.Shelf Go.Proofs.YtmbnjgnmblgjoaaW.PrintWords Go.Proofs.YtmbnjgnmblgjoaaW.PrintLast Go.Proofs.YtmbnjgnmblgjoaaW.PrintMore
set_option linter.unusedVariables false
set_option linter.unusedSimpArgs false
set_option maxRecDepth 100000
def JAt (w : World) (J D : Nat) (v : Value) : Prop := w.heap[J]? = some (.cells #[.pointer (some ⟨D, 0, none⟩), v] 184 (0, 0))
theorem JAt.c0 {w : World} {J D : Nat} {v : Value} (k : JAt w J D v) : w.cell? ⟨J, 0, none⟩ = some (.pointer (some ⟨D, 0, none⟩)) := by simp [World.cell?, show w.heap[J]? = _ from k]
theorem JAt.c1 {w : World} {J D : Nat} {v : Value} (k : JAt w J D v) : w.cell? ⟨J, 1, none⟩ = some v := by simp [World.cell?, show w.heap[J]? = _ from k]
theorem JAt.f {w : World} {J D : Nat} {v : Value} (k : JAt w J D v) (j : Nat) : w.frozen? ⟨J, j, none⟩ = false := by simp [World.frozen?, show w.heap[J]? = _ from k]
theorem JAt.lt {w : World} {J D : Nat} {v : Value} (k : JAt w J D v) : J < w.heap.size := (Array.getElem?_eq_some_iff.1 k).1
theorem JAt.put1 {w : World} {J D : Nat} {v : Value} (k : JAt w J D v) (u : Value) : JAt (w.setCell ⟨J, 1, none⟩ u) J D u := by
 unfold JAt World.setCell
 simp [Array.getElem?_modify, show w.heap[J]? = _ from k]
theorem JAt.ne {w w1 : World} {J D : Nat} {v : Value} (k : JAt w J D v) (h : w1.heap[J]? = w.heap[J]?) : JAt w1 J D v := h.trans k
abbrev IR (w : World) (base : Nat) (v : Value) (xs : List Int) : Prop := Kd.R (Kd.int .i64) 3 w base (fun _ => True) v xs
theorem IR.len {w : World} {base : Nat} {v : Value} {xs : List Int} (h : IR w base v xs) : ∃ A c, v = .slice A xs.length c ∧ xs.length ≤ c ∧ Kd.C (Kd.int .i64) w A xs.length xs := Kd.R_reads h
theorem info_int : (Try.prog.info? 3).map (fun i => (i.zero, i.size, i.bytes)) = some (some (.int .i64 0), 1, 8) := by kernel_rfl
section
variable {α : Type} {d : Kd α} {e base : Nat} {v : Value} {xs : List α} {W Y : World}
theorem R_nc {row : Option Nat} (h : d.R e W base (fun _ => True) v xs) (hg : W.grownBy Y row) (hr : ∀ r, row = some r → ∃ o : Obj, W.heap[r]? = some o ∧ o.isCells = false) : d.R e Y base (fun _ => True) v xs :=
 Kd.R_mono (Kd.R_grown (Kd.R_bound h) hg (fun k hk e => by
  obtain ⟨o, ho, hc⟩ := hr k e.symm
  obtain ⟨_, _, _, q, _, cells, hq⟩ := hk
  rw [ho] at hq
  cases hq
  cases hc)) (fun _ _ => trivial)
theorem R_cells (h : d.R e W base (fun _ => True) v xs) (hm : ∀ (k : Nat) (o : Obj), W.heap[k]? = some o → o.isCells = true → Y.heap[k]? = some o) : d.R e Y base (fun _ => True) v xs :=
 Kd.R_mono (Kd.R_move (Kd.R_bound h) (fun k hk => by
  obtain ⟨_, _, _, q, _, cells, hq⟩ := hk
  rw [hq]
  exact hm _ _ hq rfl)) (fun _ _ => trivial)
theorem R_typed {row : Option Nat} {t : TypeId} (h : d.R e W base (fun _ => True) v xs) (ht : t ∉ e :: d.E) (hg : W.grownBy Y row) (hr : ∀ r, row = some r → ∃ cs, W.heap[r]? = some (.cells cs t (0, 0))) : d.R e Y base (fun _ => True) v xs :=
 Kd.R_mono (Kd.R_grown (Kd.R_bound h) hg (fun k hk e => by
  obtain ⟨cs, ho⟩ := hr k e.symm
  obtain ⟨_, _, _, q, hq1, cells, hq⟩ := hk
  rw [ho] at hq
  cases hq
  exact ht hq1)) (fun _ _ => trivial)
theorem R_typ (h : d.R e W base (fun _ => True) v xs) (r : Nat) (hr : v.ownBlock = some r) : ∃ cs, W.heap[r]? = some (.cells cs e (0, 0)) := own_typed (Kd.R_own h).choose_spec r hr
theorem R_ge (h : d.R e W base (fun _ => True) v xs) (r : Nat) (hr : v.ownBlock = some r) : base ≤ r := own_base (Kd.R_own h).choose_spec r hr
theorem R_lt (h : d.R e W base (fun _ => True) v xs) (r : Nat) (hr : v.ownBlock = some r) : r < W.heap.size := own_lt (Kd.R_own h).choose_spec r hr
end
theorem DStep.then_ {w w1 w2 : World} {B : Nat} {v v1 v2 : Value} (h : DStep w w1 B v v1) (k : DStep w1 w2 B v1 v2) : DStep w w2 B v v2 := by
 refine ⟨k.os.trans h.os, k.tape.trans h.tape, k.output.trans h.output, Nat.le_trans h.size k.size, fun j hj hB hv => (k.block j (by have := h.size; omega) hB ?_).trans (h.block j hj hB hv), ?_⟩
 · rcases h.row with e | ⟨b, e, hb⟩
   · rw [e]; exact hv
   · rw [e]; intro q; cases q; omega
 · rcases k.row with e | ⟨b, e, hb⟩
   · rw [e]; exact h.row
   · exact .inr ⟨b, e, by have := h.size; omega⟩
theorem DStep.of_below_ {w w1 : World} (B : Nat) (v : Value) (h : Below w.heap.size w w1) : DStep w w1 B v v := ⟨h.os, h.tape, h.output, h.size, fun k hk _ _ => h.block k hk, .inl rfl⟩
theorem DiskS.shut {n0 : Nat} {w w' : World} {base B : Nat} {v : Value} {xs : List Int} {s m : Int} (h : DiskS w base B v xs s m) (hs : Shut n0 w w') : DiskS w' base B v xs s m :=
 { h with
  cells := hs.cells _ _ h.cells rfl
  row := h.row.move fun k hk => by
   obtain ⟨_, _, cur, hc⟩ := h.row.block hk
   rw [hc]
   exact hs.cells _ _ hc rfl }
theorem DStep.shut {w w1 w' : World} {B : Nat} {v v' : Value} (h : DStep w w1 B v v') (hs : Shut w.heap.size w1 w') : DStep w w' B v v' :=
 ⟨hs.os.trans h.os, hs.tape.trans h.tape, hs.output.trans h.output, by rw [hs.size]; exact h.size, fun k hk h1 h2 => (hs.block k hk).trans (h.block k hk h1 h2), h.row⟩
structure JK (lo base : Nat) (W W' : World) : Prop where
 size : W.heap.size ≤ W'.heap.size
 keep : ∀ (k : Nat) (o : Obj), W.heap[k]? = some o → o.isCells = false → W'.heap[k]? = some o
 mid : ∀ k, lo ≤ k → k < base → k < W.heap.size → W'.heap[k]? = W.heap[k]?
theorem JK.trans {lo base : Nat} {A B C : World} (h : JK lo base A B) (k : JK lo base B C) : JK lo base A C :=
 ⟨Nat.le_trans h.size k.size, fun i o hi hc => k.keep i o (h.keep i o hi hc) hc, fun i h1 h2 h3 => (k.mid i h1 h2 (Nat.lt_of_lt_of_le h3 h.size)).trans (h.mid i h1 h2 h3)⟩
theorem JK.of_below {lo base : Nat} {W W' : World} (h : Below W.heap.size W W') : JK lo base W W' :=
 ⟨h.size, fun k o hk _ => (h.block k (Array.getElem?_eq_some_iff.1 hk).1).trans hk, fun k _ _ hk => h.block k hk⟩
theorem JK.of_row {lo base : Nat} {W W' : World} {row : Option Nat} {t : TypeId} (hg : W.grownBy W' row) (hb : ∀ r, row = some r → base ≤ r) (hr : ∀ r, row = some r → ∃ cs, W.heap[r]? = some (.cells cs t (0, 0))) : JK lo base W W' :=
 ⟨hg.size, fun k o hk hc => (hg.block k (Array.getElem?_eq_some_iff.1 hk).1 (fun e => by obtain ⟨cs, h⟩ := hr k e.symm; rw [hk] at h; cases h; cases hc)).trans hk,
  fun k _ h2 h3 => hg.block k h3 (fun e => by have := hb k e.symm; omega)⟩
theorem JK.of_set {lo base : Nat} {W : World} {P j : Nat} {u : Value} {cs : Array Value} {t : TypeId} (hP : P < lo) (hc : W.heap[P]? = some (.cells cs t (0, 0))) : JK lo base W (W.setCell ⟨P, j, none⟩ u) :=
 ⟨by simp [World.setCell], fun k o hk ho => (Below.heap_setCell W ⟨P, j, none⟩ u k (fun e => by subst e; rw [hc] at hk; cases hk; cases ho)).trans hk, fun k h1 _ _ => Below.heap_setCell W ⟨P, j, none⟩ u k (by show k ≠ P; omega)⟩
structure JoS (w1 W : World) (D J base : Nat) (vE vL : Value) (at_ : Int) (es : List Int) (xs : List K.S26) : Prop where
 jr : JAt W J D vE
 jv : Boxed W (J + 1) 106 (.pointer (some ⟨J, 0, none⟩))
 lv : Boxed W (J + 2) 69 vL
 av : Boxed W (J + 3) 3 (.int .i64 at_)
 ends : IR W base vE es
 ents : ER W base vL xs
 bel : Below w1.heap.size w1 W
 sz : base ≤ W.heap.size
 j0 : w1.heap.size ≤ J
 j1 : J + 4 ≤ base
section
variable {w1 W W' : World} {D J base : Nat} {vE vL v' : Value} {at_ : Int} {es es' : List Int} {xs xs' : List K.S26}
theorem JoS.nc (h : JoS w1 W D J base vE vL at_ es xs) {row : Option Nat} (hg : W.grownBy W' row) (hr : ∀ r, row = some r → base ≤ r ∧ ∃ o : Obj, W.heap[r]? = some o ∧ o.isCells = false) : JoS w1 W' D J base vE vL at_ es xs := by
 have hne : ∀ k, k < base → some k ≠ row := fun k hk e => by have := (hr k e.symm).1; omega
 have hj := h.j1
 exact ⟨(hg.block _ h.jr.lt (hne _ (by omega))).trans h.jr, h.jv.kept hg (hne _ (by omega)), h.lv.kept hg (hne _ (by omega)), h.av.kept hg (hne _ (by omega)), R_nc h.ends hg (fun r e => (hr r e).2), R_nc h.ents hg (fun r e => (hr r e).2),
  h.bel.grown hg h.bel.size (fun r e => by have := (hr r e).1; have := h.j0; omega), Nat.le_trans h.sz hg.size, h.j0, h.j1⟩
theorem JoS.below (h : JoS w1 W D J base vE vL at_ es xs) (hb : Below W.heap.size W W') : JoS w1 W' D J base vE vL at_ es xs :=
 ⟨(hb.block _ h.jr.lt).trans h.jr, (hb.block _ h.jv.lt).trans h.jv, (hb.block _ h.lv.lt).trans h.lv, (hb.block _ h.av.lt).trans h.av, Kd.R_below h.ends hb, Kd.R_below h.ents hb, h.bel.trans (hb.mono h.bel.size), Nat.le_trans h.sz hb.size, h.j0, h.j1⟩
theorem JoS.putE (h : JoS w1 W D J base vE vL at_ es xs) (hg : W.grownBy W' vE.ownBlock) (hr : IR W' base v' es') : JoS w1 (W'.setCell ⟨J, 1, none⟩ v') D J base v' vL at_ es' xs := by
 have hj := h.j1
 have hge : ∀ r, vE.ownBlock = some r → base ≤ r := R_ge h.ends
 have hne : ∀ k, k < base → some k ≠ vE.ownBlock := fun k hk e => by have := hge k e.symm; omega
 have hL : ER W' base vL xs := R_typed h.ents (t := 3) (by decide) hg (R_typ h.ends)
 have hJ : JAt W' J D vE := (hg.block _ h.jr.lt (hne _ (by omega))).trans h.jr
 refine ⟨hJ.put1 v', ?_, ?_, ?_, ?_, ?_, ?_, ?_, h.j0, h.j1⟩
 · exact (Below.heap_setCell _ _ _ _ (by show J + 1 ≠ J; omega)).trans (h.jv.kept hg (hne _ (by omega)))
 · exact (Below.heap_setCell _ _ _ _ (by show J + 2 ≠ J; omega)).trans (h.lv.kept hg (hne _ (by omega)))
 · exact (Below.heap_setCell _ _ _ _ (by show J + 3 ≠ J; omega)).trans (h.av.kept hg (hne _ (by omega)))
 · exact Kd.R_grown (Kd.R_bound hr) (grownBy_set W' J 1 v' (World.grownBy.refl W' _)) (fun k hk e => by cases e; have := hk.2.1; omega) |> fun h => Kd.R_mono h (fun _ _ => trivial)
 · exact ER.set hL (by omega) 1 v'
 · exact (h.bel.grown hg h.bel.size (fun r e => by have := hge r e; have := h.j0; omega)).setCell (p := ⟨J, 1, none⟩) h.j0 v'
 · have := hg.size; have := h.sz; simp [World.setCell]; omega
theorem JoS.keepE (h : JoS w1 W D J base vE vL at_ es xs) (hg : W.grownBy W' vE.ownBlock) : JK (J + 4) base W (W'.setCell ⟨J, 1, none⟩ v') := by
 have hj := h.j1
 have hge : ∀ r, vE.ownBlock = some r → base ≤ r := R_ge h.ends
 have hJ : JAt W' J D vE := (hg.block _ h.jr.lt (fun e => by have := hge _ e.symm; omega)).trans h.jr
 exact (JK.of_row hg hge (R_typ h.ends)).trans (JK.of_set (by omega) hJ)
theorem JoS.putL (h : JoS w1 W D J base vE vL at_ es xs) (hg : W.grownBy W' vL.ownBlock) (hr : ER W' base v' xs') : JoS w1 (W'.setCell ⟨J + 2, 0, none⟩ v') D J base vE v' at_ es xs' := by
 have hj := h.j1
 have hge : ∀ r, vL.ownBlock = some r → base ≤ r := R_ge h.ents
 have hne : ∀ k, k < base → some k ≠ vL.ownBlock := fun k hk e => by have := hge k e.symm; omega
 have hE : IR W' base vE es := R_typed h.ends (t := 26) (by decide) hg (R_typ h.ents)
 have hB : Boxed W' (J + 2) 69 vL := h.lv.kept hg (hne _ (by omega))
 refine ⟨?_, ?_, hB.set v', ?_, ?_, ?_, ?_, ?_, h.j0, h.j1⟩
 · exact (Below.heap_setCell _ _ _ _ (by show J ≠ J + 2; omega)).trans ((hg.block _ h.jr.lt (hne _ (by omega))).trans h.jr)
 · exact (Below.heap_setCell _ _ _ _ (by show J + 1 ≠ J + 2; omega)).trans (h.jv.kept hg (hne _ (by omega)))
 · exact (Below.heap_setCell _ _ _ _ (by show J + 3 ≠ J + 2; omega)).trans (h.av.kept hg (hne _ (by omega)))
 · exact Kd.R_grown (Kd.R_bound hE) (grownBy_set W' (J + 2) 0 v' (World.grownBy.refl W' _)) (fun k hk e => by cases e; have := hk.2.1; omega) |> fun h => Kd.R_mono h (fun _ _ => trivial)
 · exact ER.set hr (by omega) 0 v'
 · exact (h.bel.grown hg h.bel.size (fun r e => by have := hge r e; have := h.j0; omega)).setCell (p := ⟨J + 2, 0, none⟩) (by have := h.j0; show w1.heap.size ≤ J + 2; omega) v'
 · have := hg.size; have := h.sz; simp [World.setCell]; omega
theorem JoS.keepL (h : JoS w1 W D J base vE vL at_ es xs) (hg : W.grownBy W' vL.ownBlock) : JK (J + 4) base W (W'.setCell ⟨J + 2, 0, none⟩ v') := by
 have hj := h.j1
 have hge : ∀ r, vL.ownBlock = some r → base ≤ r := R_ge h.ents
 have hB : Boxed W' (J + 2) 69 vL := h.lv.kept hg (fun e => by have := hge _ e.symm; omega)
 exact (JK.of_row hg hge (R_typ h.ents)).trans (JK.of_set (by omega) hB)
theorem JoS.putA (h : JoS w1 W D J base vE vL at_ es xs) (n : Int) : JoS w1 (W.setCell ⟨J + 3, 0, none⟩ (.int .i64 n)) D J base vE vL n es xs := by
 have hj := h.j1
 refine ⟨?_, h.jv.other (by omega) _, h.lv.other (by omega) _, h.av.set _, ?_, ER.set h.ents (by omega) 0 _, h.bel.setCell (p := ⟨J + 3, 0, none⟩) (by have := h.j0; show w1.heap.size ≤ J + 3; omega) _, by have := h.sz; simpa [World.setCell] using this, h.j0, h.j1⟩
 · exact (Below.heap_setCell _ _ _ _ (by show J ≠ J + 3; omega)).trans h.jr
 · exact Kd.R_grown (Kd.R_bound h.ends) (grownBy_set W (J + 3) 0 _ (World.grownBy.refl W _)) (fun k hk e => by cases e; have := hk.2.1; omega) |> fun h => Kd.R_mono h (fun _ _ => trivial)
theorem JoS.keepA (h : JoS w1 W D J base vE vL at_ es xs) (n : Int) : JK (J + 4) base W (W.setCell ⟨J + 3, 0, none⟩ (.int .i64 n)) := JK.of_set (by omega) h.av
end
end Go.Proofs.Ytmbnjgnmblgjoaa.Man
end
section
namespace Go.Proofs.Ytmbnjgnmblgjoaa.Open
open Go.RowKit Go.ChangeShapes Go.WideShapes Go.Proofs.YtmbnjgnmblgjoaaW.PrintWords
set_option linter.unusedVariables false
structure OP {α : Type} (P : Program) (t : TypeId) (K : Kd α) (bk : α → Nat) : Prop where
 out : Opens P t K (fun _ => True) bk
structure OF {α : Type} (P : Program) (o : Nat) (fs : List Field) (K : Kd α) (bk : α → Nat) : Prop where
 out : OpensF P o fs K (fun _ => True) bk
theorem OP.of {α : Type} {P : Program} {t : TypeId} {K : Kd α} {wf : α → Prop} {bk bk' : α → Nat} (h : Opens P t K wf bk) (hb : ∀ x, bk' x ≤ bk x) : OP P t K bk' := ⟨by
 intro H enc w fuel cs d ps hd hwt
 obtain ⟨x, k1, k2, k3⟩ := h enc w fuel cs d ps hd hwt
 exact ⟨x, k1, trivial, Nat.le_trans (hb x) k3⟩⟩
theorem OF.of {α : Type} {P : Program} {o : Nat} {fs : List Field} {K : Kd α} {wf : α → Prop} {bk bk' : α → Nat} (h : OpensF P o fs K wf bk) (hb : ∀ x, bk' x ≤ bk x) : OF P o fs K bk' := ⟨by
 intro H enc w n cs ys hl hy hwt
 obtain ⟨x, k1, k2, k3⟩ := h enc w n cs ys hl hy hwt
 exact ⟨x, k1, trivial, Nat.le_trans (hb x) k3⟩⟩
theorem op_int : OP Try.prog 3 (Kd.int .i64) (fun _ => 0) := .of (opens_int Try.underlying3) (fun _ => Nat.zero_le _)
theorem OF.cons {α β : Type} {P : Program} {o : Nat} {f : Field} {fs : List Field} {K : Kd α} {K' : Kd β} {bk : α → Nat} {bk' : β → Nat} (ho : f.offset = o) (hc : P.cellsOf f.type = K.sz) (h : OP P f.type K bk) (h' : OF P (o + K.sz) fs K' bk') : OF P o (f :: fs) (Kd.pair K K') (fun x => bk x.1 + bk' x.2) :=
 .of (opensF_cons ho hc h.out h'.out) (fun _ => Nat.le_refl _)
theorem OF.one {α : Type} {P : Program} {o : Nat} {f : Field} {K : Kd α} {bk : α → Nat} (ho : f.offset = o) (hc : P.cellsOf f.type = K.sz) (h : OP P f.type K bk) : OF P o [f] K bk := .of (opensF_one ho hc h.out) (fun _ => Nat.le_refl _)
theorem OP.struct {α β : Type} {P : Program} {t : TypeId} {fs : Array Field} {l : List Field} {K : Kd α} {bk : α → Nat} (f : β → α) (g : α → β) (hfg : ∀ a, f (g a) = a) (ht : P.underlying t = some (.struct fs)) (hl : fs.toList = l) (hc : P.cellsOf t = K.sz) (h : OF P 0 l K bk) : OP P t (Kd.iso K f) (fun x => bk (f x) + 1) :=
 .of (opens_iso f g hfg (opens_struct ht hl hc h.out)) (fun _ => Nat.le_refl _)
theorem OP.slice {α : Type} {P : Program} {t e : TypeId} {K : Kd α} {bk : α → Nat} (ht : P.underlying t = some (.slice e)) (hc : P.cellsOf e = K.sz) (h : OP P e K bk) : OP P t (Kd.slice e K) (fun xs => sum1 bk xs + 1) :=
 .of (opens_slice ht hc (B := P.bytesOf e) rfl h.out e) (fun _ => Nat.le_refl _)
theorem OP.le {α : Type} {P : Program} {t : TypeId} {K : Kd α} {bk bk' : α → Nat} (h : OP P t K bk) (hb : ∀ x, bk' x ≤ bk x) : OP P t K bk' := .of h.out hb
theorem OF.le {α : Type} {P : Program} {o : Nat} {fs : List Field} {K : Kd α} {bk bk' : α → Nat} (h : OF P o fs K bk) (hb : ∀ x, bk' x ≤ bk x) : OF P o fs K bk' := .of h.out hb
theorem fint {β : Type} {o : Nat} {f : Field} {fs : List Field} {K' : Kd β} {bk' : β → Nat} (ho : f.offset = o) (ht : f.type = 3) (hc : Try.prog.cellsOf f.type = 1) (h' : OF Try.prog (o + 1) fs K' bk') : OF Try.prog o (f :: fs) (Kd.pair (Kd.int .i64) K') (fun x => 0 + bk' x.2) :=
 OF.cons (K := Kd.int .i64) ho hc (by rw [ht]; exact op_int) h'
theorem fint1 {o : Nat} {f : Field} (ho : f.offset = o) (ht : f.type = 3) (hc : Try.prog.cellsOf f.type = 1) : OF Try.prog o [f] (Kd.int .i64) (fun _ => 0) := OF.one (K := Kd.int .i64) ho hc (by rw [ht]; exact op_int)
theorem op_tok : OP Try.prog 111 K.k111 (fun _ => 1) := by
 refine OP.le (OP.struct (bk := fun _ => 0) (fun x : K.S111 => (x.f0, x.f1, x.f2, x.f3)) (fun p => ⟨p.1, p.2.1, p.2.2.1, p.2.2.2⟩) (fun _ => rfl) (l := [_, _, _, _]) Try.underlying111 rfl (by kernel_rfl) ?h) (fun _ => by omega)
 case h => exact OF.le (fint rfl rfl (by kernel_rfl) (fint rfl rfl (by kernel_rfl) (fint rfl rfl (by kernel_rfl) (fint1 rfl rfl (by kernel_rfl))))) (fun _ => by (try simp only); omega)
theorem op_toks : OP Try.prog 22 (Kd.slice 111 K.k111) (fun xs => xs.length) := (OP.slice Try.underlying22 (by kernel_rfl) op_tok).le (fun xs => by rw [sum1_const]; omega)
theorem op_step : OP Try.prog 24 K.k24 (fun x => x.f6.length + 1) := by
 refine OP.le (OP.struct (bk := fun p => p.2.2.2.2.2.2.1.length) (fun x : K.S24 => (x.f0, x.f1, x.f2, x.f3, x.f4, x.f5, x.f6, x.f7)) (fun p => ⟨p.1, p.2.1, p.2.2.1, p.2.2.2.1, p.2.2.2.2.1, p.2.2.2.2.2.1, p.2.2.2.2.2.2.1, p.2.2.2.2.2.2.2⟩) (fun _ => rfl) (l := [_, _, _, _, _, _, _, _]) Try.underlying24 rfl (by kernel_rfl) ?h) (fun x => ?b)
 case h => exact OF.le (fint rfl rfl (by kernel_rfl) (fint rfl rfl (by kernel_rfl) (fint rfl rfl (by kernel_rfl) (fint rfl rfl (by kernel_rfl) (fint rfl rfl (by kernel_rfl) (fint rfl rfl (by kernel_rfl) (OF.cons (K := Kd.slice 111 K.k111) rfl (by kernel_rfl) op_toks (fint1 rfl rfl (by kernel_rfl))))))))) (fun _ => by (try simp only); omega)
 case b => simp only; omega
theorem op_entry : OP Try.prog 26 K.k26 (fun x => x.f2.f6.length + 1) := by
 refine OP.le (OP.struct (bk := fun p => p.2.2.f6.length + 1) (fun x : K.S26 => (x.f0, x.f1, x.f2)) (fun p => ⟨p.1, p.2.1, p.2.2⟩) (fun _ => rfl) (l := [_, _, _]) Try.underlying26 rfl (by kernel_rfl) ?h) (fun x => ?b)
 case h => exact OF.le (fint rfl rfl (by kernel_rfl) (fint rfl rfl (by kernel_rfl) (OF.one (K := K.k24) rfl (by kernel_rfl) op_step))) (fun _ => by (try simp only); omega)
 case b => simp only; omega
theorem op_ents : OP Try.prog 69 (Kd.slice 26 K.k26) (fun xs => sum1 (fun x : K.S26 => x.f2.f6.length + 1) xs + 1) := OP.slice Try.underlying69 (by kernel_rfl) op_entry
def kMsg : Kd Man.MsgL := Kd.iso (Kd.pair (Kd.int .i64) (Kd.pair (Kd.int .i64) (Kd.pair (Kd.int .i64) (Kd.slice 26 K.k26)))) (fun m : Man.MsgL => (m.k, m.who, m.ver, m.l))
end Go.Proofs.Ytmbnjgnmblgjoaa.Open
end
section
namespace Go.Proofs.Ytmbnjgnmblgjoaa.Man
open Go.RowKit Go.Proofs.YtmbnjgnmblgjoaaW.PrintWords Go.Proofs.YtmbnjgnmblgjoaaW.PrintLast Go.Proofs.YtmbnjgnmblgjoaaW.PrintMore
set_option linter.unusedVariables false
set_option linter.unusedSimpArgs false
set_option maxRecDepth 100000
theorem EntAt.below {w W : World} {P c : Nat} {x : K.S26} {A : Option Addr} (h : EntAt w P x A c) (hb : Below w.heap.size w W) : EntAt W P x A c := (hb.block _ h.lt).trans h
theorem put_ent {x : K.S26} (h : entryE x = 0) : putEntryF x = (entryB x, 0) := by unfold putEntryF; rw [if_pos h, h]
end Go.Proofs.Ytmbnjgnmblgjoaa.Man
end
section
namespace Go.Proofs.Ytmbnjgnmblgjoaa.Man
open Go.RowKit Go.Shelf Go.Proofs.YtmbnjgnmblgjoaaW.PrintWords Go.Proofs.YtmbnjgnmblgjoaaW.PrintLast Go.Proofs.YtmbnjgnmblgjoaaW.PrintMore
set_option linter.unusedVariables false
set_option linter.unusedSimpArgs false
set_option maxRecDepth 100000
attribute [local go_sem] wide_fn_ Oper.semAt_some
theorem jo_start (w1 : World) (B : Nat) : (JAt ((((w1.alloc (.cells #[.pointer (some ⟨B, 0, none⟩), .slice none 0 0] 184)).alloc (.cells #[.pointer (some ⟨w1.heap.size, 0, none⟩)] 106)).alloc (.cells #[.slice none 0 0] 69)).alloc (.cells #[.int .i64 0] 3)) w1.heap.size B (.slice none 0 0) ∧
 Boxed ((((w1.alloc (.cells #[.pointer (some ⟨B, 0, none⟩), .slice none 0 0] 184)).alloc (.cells #[.pointer (some ⟨w1.heap.size, 0, none⟩)] 106)).alloc (.cells #[.slice none 0 0] 69)).alloc (.cells #[.int .i64 0] 3)) (w1.heap.size + 1) 106 (.pointer (some ⟨w1.heap.size, 0, none⟩)) ∧
 Boxed ((((w1.alloc (.cells #[.pointer (some ⟨B, 0, none⟩), .slice none 0 0] 184)).alloc (.cells #[.pointer (some ⟨w1.heap.size, 0, none⟩)] 106)).alloc (.cells #[.slice none 0 0] 69)).alloc (.cells #[.int .i64 0] 3)) (w1.heap.size + 2) 69 (.slice none 0 0) ∧
 Boxed ((((w1.alloc (.cells #[.pointer (some ⟨B, 0, none⟩), .slice none 0 0] 184)).alloc (.cells #[.pointer (some ⟨w1.heap.size, 0, none⟩)] 106)).alloc (.cells #[.slice none 0 0] 69)).alloc (.cells #[.int .i64 0] 3)) (w1.heap.size + 3) 3 (.int .i64 0)) ∧
 ((((w1.alloc (.cells #[.pointer (some ⟨B, 0, none⟩), .slice none 0 0] 184)).alloc (.cells #[.pointer (some ⟨w1.heap.size, 0, none⟩)] 106)).alloc (.cells #[.slice none 0 0] 69)).alloc (.cells #[.int .i64 0] 3)).heap.size = w1.heap.size + 4 ∧
 Below w1.heap.size w1 ((((w1.alloc (.cells #[.pointer (some ⟨B, 0, none⟩), .slice none 0 0] 184)).alloc (.cells #[.pointer (some ⟨w1.heap.size, 0, none⟩)] 106)).alloc (.cells #[.slice none 0 0] 69)).alloc (.cells #[.int .i64 0] 3)) := by
 refine ⟨⟨?_, ?_, ?_, ?_⟩, by simp, ((((Below.refl w1.heap.size w1).alloc (Nat.le_refl _) _).alloc (by simp) _).alloc (by simp; omega) _).alloc (by simp; omega) _⟩
 · exact (Below.heap_alloc _ _ _ (by simp; omega)).trans ((Below.heap_alloc _ _ _ (by simp; omega)).trans ((Below.heap_alloc _ _ _ (by simp)).trans (World.alloc_heap_new w1 _)))
 · have h := World.alloc_heap_new (w1.alloc (.cells #[.pointer (some ⟨B, 0, none⟩), .slice none 0 0] 184)) (.cells #[.pointer (some ⟨w1.heap.size, 0, none⟩)] 106)
   rw [World.size_alloc] at h
   exact (Below.heap_alloc _ _ _ (by simp)).trans ((Below.heap_alloc _ _ _ (by simp)).trans h)
 · have h := World.alloc_heap_new ((w1.alloc (.cells #[.pointer (some ⟨B, 0, none⟩), .slice none 0 0] 184)).alloc (.cells #[.pointer (some ⟨w1.heap.size, 0, none⟩)] 106)) (.cells #[.slice none 0 0] 69)
   rw [World.size_alloc, World.size_alloc] at h
   exact (Below.heap_alloc _ _ _ (by simp)).trans h
 · have h := World.alloc_heap_new (((w1.alloc (.cells #[.pointer (some ⟨B, 0, none⟩), .slice none 0 0] 184)).alloc (.cells #[.pointer (some ⟨w1.heap.size, 0, none⟩)] 106)).alloc (.cells #[.slice none 0 0] 69)) (.cells #[.int .i64 0] 3)
   rw [World.size_alloc, World.size_alloc, World.size_alloc] at h
   exact h
def JM (lo base : Nat) (X Y : World) : Prop := X.heap.size ≤ Y.heap.size ∧ ∀ k, lo ≤ k → k < base → k < X.heap.size → Y.heap[k]? = X.heap[k]?
theorem JK.jm {lo base : Nat} {X Y : World} (h : JK lo base X Y) : JM lo base X Y := ⟨h.size, h.mid⟩
theorem JK.kf {lo base : Nat} {X Y : World} (h : JK lo base X Y) (B : Nat) : KeepsFrom B X Y := ⟨h.size, fun k o _ hk ho => h.keep k o hk ho⟩
theorem JM.trans {lo base : Nat} {A B C : World} (h : JM lo base A B) (k : JM lo base B C) : JM lo base A C := ⟨Nat.le_trans h.1 k.1, fun i h1 h2 h3 => (k.2 i h1 h2 (Nat.lt_of_lt_of_le h3 h.1)).trans (h.2 i h1 h2 h3)⟩
theorem JoS.held {w1 W W' : World} {D J base : Nat} {vE vL : Value} {at_ : Int} {es : List Int} {xs : List K.S26} (h : JoS w1 W D J base vE vL at_ es xs) (hg : W.grownBy W' vE.ownBlock) :
 W'.cell? ⟨J + 1, 0, none⟩ = some (.pointer (some ⟨J, 0, none⟩)) ∧ W'.cell? ⟨J, 1, none⟩ = some vE ∧ W'.frozen? ⟨J, 1, none⟩ = false := by
 have hj := h.j1
 have hge : ∀ r, vE.ownBlock = some r → base ≤ r := R_ge h.ends
 have hne : ∀ k, k < base → some k ≠ vE.ownBlock := fun k hk e => by have := hge k e.symm; omega
 have hJ : JAt W' J D vE := (hg.block _ h.jr.lt (hne _ (by omega))).trans h.jr
 exact ⟨(h.jv.kept hg (hne _ (by omega))).cell, hJ.c1, hJ.f 1⟩
theorem JoS.held2 {w1 W W' : World} {D J base : Nat} {vE vL : Value} {at_ : Int} {es : List Int} {xs : List K.S26} (h : JoS w1 W D J base vE vL at_ es xs) (hg : W.grownBy W' vL.ownBlock) :
 W'.cell? ⟨J + 2, 0, none⟩ = some vL ∧ W'.frozen? ⟨J + 2, 0, none⟩ = false := by
 have hj := h.j1
 have hge : ∀ r, vL.ownBlock = some r → base ≤ r := R_ge h.ents
 have hB : Boxed W' (J + 2) 69 vL := h.lv.kept hg (fun e => by have := hge _ e.symm; omega)
 exact ⟨hB.cell, hB.frozen⟩
theorem apart_types {W : World} {j t t' : Nat} (h : ∃ cs, W.heap[j]? = some (.cells cs t (0, 0))) (h' : ∃ cs, W.heap[j]? = some (.cells cs t' (0, 0))) (hne : t ≠ t') : False := by
 obtain ⟨cs, h⟩ := h
 obtain ⟨cs', h'⟩ := h'
 rw [h] at h'
 cases h'
 exact hne rfl
def jopR10.T : Bool × List (List Nat × List Nat) := (true, [([], []), ([], []), ([1], [1]), ([2], [2]), ([3], [3]), ([], []), ([5], [5]), ([4, 6], [4, 6]), ([0, 0, 1, 2, 3, 4, 5, 6, 7], [0]), ([8, 0, 1, 2, 3, 4, 5, 6, 7], [8]), ([9, 7, 7, 0, 1, 2, 3, 4, 5, 6, 7], [7, 9])])
def jopR10.B : List Nat := [0, 0, 2, 6, 14, 0, 32, 126, 255, 511, 1023]
theorem jopR10.tab : rtab .any (opsOf Try.f72 10) = jopR10.T := by kernel_rfl
theorem jopR10.bits : waitsOk jopR10.T.2 jopR10.B = true := by kernel_rfl
set_option maxHeartbeats 16000000 in
theorem jopen_is {w : World} {dbase B : Nat} {v : Value} {b : List Int} {s m : Int} (hD : DiskS w dbase B v b s m) (hB : areBytesN b = true) {xs : List K.S26} {r : List Int} (hL : LogOf b xs r) :
 Calls Try.prog 72 #[.pointer (some ⟨B, 0, none⟩)] w fun e w' => ∃ J vE vL v', e = .returned (.tuple #[.pointer (some ⟨J, 0, none⟩), vL, .int .i64 0]) ∧ w.heap.size ≤ J ∧ JAt w' J B vE ∧ IR w' w.heap.size vE (endsE 0 xs) ∧ ER w' w.heap.size vL xs ∧ DiskS w' dbase B v' (flatE xs) ((flatE xs).length : Int) m ∧ DStep w w' B v v' := by
 have hblen : b.length ≤ 262144 := by have := hD.len; have := hD.m1; omega
 have HD := Lib.hid hD
 have HB := Lib.hid hB
 have HL := Lib.hid hL
 have HA := Lib.hid (append_is hD none 0 (C_nil w .u8) (by have := hD.len; simp; omega))
 clear hD hB hL
 refine (callsIn_wide (n := 3)).1 ?_
 refine callsIn_of_wp_marks Try.func72 rfl trivial ?_ rfl
 simp only [Try.ntmps72, List.size_toArray, List.length_cons, List.length_nil, Nat.reduceAdd, Nat.reduceSub, Array.replicate_succ, Array.replicate_zero, List.push_toArray, List.append_toArray, List.nil_append, List.cons_append]
 refine wpIn_wide.2 ?_
 go_upto_region 7 with (go_at_call 29; refine HA.out.mono ?_; rintro e w1 ⟨rfl, v1, hd, hst⟩; rw [List.append_nil] at hd; have HD1 := Lib.hid hd; have HS1 := Lib.hid hst; clear hd hst)
 obtain ⟨w2, hw2⟩ : ∃ w2, (((w1.alloc (.cells #[.pointer (some ⟨B, 0, none⟩), .slice none 0 0] 184)).alloc (.cells #[.pointer (some ⟨w1.heap.size, 0, none⟩)] 106)).alloc (.cells #[.slice none 0 0] 69)).alloc (.cells #[.int .i64 0] 3) = w2 := ⟨_, rfl⟩
 have hS2 := jo_start w1 B
 rw [hw2] at hS2 ⊢
 obtain ⟨hs2, hz2, hb2⟩ := hS2
 have HB12 := Lib.hid hb2
 have HO2 := Lib.hid hs2
 have HZ2 := Lib.hid hz2
 have HD2 := Lib.hid (HD1.out.below hb2 (Nat.le_refl _))
 obtain ⟨J, hJ⟩ : ∃ J, w1.heap.size = J := ⟨_, rfl⟩
 rw [hJ] at HZ2 HO2 HB12 ⊢
 rw [show J + 1 + 1 + 1 = J + 3 from rfl, show J + 1 + 1 = J + 2 from rfl]
 have HJ := Lib.hid hJ
 clear hs2 hz2 hb2 hw2 hJ
 go_wp2_with (first
  | (go_at_call 38; refine (bytes_is HD2.out).mono ?_; rintro e w3 ⟨u, rfl, hr, hb⟩; obtain ⟨A2, c2, rfl, hc2, hC2⟩ := BR.len hr; have HB3 := Lib.hid hb; have HR3 := Lib.hid hr; have HC3 := Lib.hid hC2; have HK3 := Lib.hid hc2; clear hr hb hC2 hc2)
  | (go_at_call 135; refine (frames_any _ _ _ _).mono ?_; rintro e w4 ⟨rfl, rfl⟩))
 have hr3 := HR3.out
 obtain ⟨Bb, hBb⟩ : ∃ Bb, w3.heap.size = Bb := ⟨_, rfl⟩
 obtain ⟨w4, hw4⟩ : ∃ w4, w3.alloc (.cells #[.slice A2 b.length c2] 27) = w4 := ⟨_, rfl⟩
 have hX4 : Boxed w4 Bb 27 (.slice A2 b.length c2) := by rw [← hw4, ← hBb]; exact Boxed.new w3 _ _
 have hb34 : Below w3.heap.size w3 w4 := by rw [← hw4]; exact (Below.refl _ _).alloc (Nat.le_refl _) _
 obtain ⟨base, hbs⟩ : ∃ base, w4.heap.size = base := ⟨_, rfl⟩
 have hb1 : base = Bb + 1 := by rw [← hbs, ← hw4, World.size_alloc, hBb]
 have hb2 : J + 4 ≤ Bb := by have := HB3.out.size; have := HZ2.out; omega
 have hA2 : ∀ ad, A2 = some ad → J + 4 ≤ ad.block ∧ ad.block < Bb := fun ad e => by
  have e2 : Value.ownBlock (.slice A2 b.length c2) = some ad.block := by rw [e]; rfl
  exact ⟨by have := R_ge hr3 _ e2; have := HZ2.out; omega, by have := R_lt hr3 _ e2; omega⟩
 rw [hw4, hBb]
 have HC4 := Lib.hid (Kd.C_below HC3.out hb34)
 have hb24 : Below w2.heap.size w2 w4 := HB3.out.trans (hb34.mono HB3.out.size)
 have hI0 : JoS w1 w4 B J base (.slice none 0 0) (.slice none 0 0) 0 [] [] := by
  obtain ⟨s1, s2, s3, s4⟩ := HO2.out
  exact ⟨(hb24.block _ s1.lt).trans s1, (hb24.block _ s2.lt).trans s2, (hb24.block _ s3.lt).trans s3, (hb24.block _ s4.lt).trans s4, Kd.R_nil _ _ _ _ _, Kd.R_nil _ _ _ _ _, by rw [HJ.out]; exact HB12.out.trans (hb24.mono (by have := HZ2.out; omega)), Nat.le_of_eq hbs.symm, Nat.le_of_eq HJ.out, by omega⟩
 have HI0 := Lib.hid hI0
 have HX4 := Lib.hid hX4
 have HA2 := Lib.hid hA2
 have HBS := Lib.hid hbs
 have HB1 := Lib.hid hb1
 clear hr3 hw4 hBb hX4 hb34 hb24 hI0 hA2 hbs hb1 HR3 HC3 HB3 HO2
 refine (wpIn_wide (n := 3)).1 ?_
 refine wpIn_rangeAllX rfl (by decide) (gf := 157) (lb := #[.pointer (some ⟨Bb, 0, none⟩)]) rfl trivial (enters_of Try.func157 (by kernel_rfl) rfl)
  (encs := Fed.encs) (Mv := fun X Y => Below X.heap.size X Y) (Kp := JM (J + 4) base) (S := fun ys => fedX ys = xs) (N := FedN base xs) ?seq
  (fun X Y k o h _ hk => (h.block k (Array.getElem?_eq_some_iff.1 hk).1).trans hk) (fun h k => h.trans k) (fun W l o o' hl h _ => ⟨by simp, fun k _ h2 _ => World.putObj_heap_other (by have := HBS.out; omega)⟩) (fun _ => rfl)
  (fun ys W => ∃ vE vL, JoS w1 W B J base vE vL ((flatE (fedX ys)).length : Int) (endsE 0 (fedX ys)) (fedX ys)) ?hI ?hIr ?h0
  (fun pre f a' W => ∃ vE vL E, JoS w1 W B J base vE vL ((flatE (fedX pre)).length : Int) (endsE 0 (fedX pre)) (fedX pre) ∧ EntAt W E f.x f.A f.c ∧ base ≤ E ∧ TR W base (.slice f.A f.x.f2.f6.length f.c) f.x.f2.f6 ∧ fedX pre ++ [f.x] <+: xs ∧ f.nx = (flatE (fedX pre ++ [f.x])).length ∧
   a' = { tmps := #[.pointer (some ⟨B, 0, none⟩), undef, .pointer none, .slice none 0 0, .int .i64 0, .int .i64 0, .pointer (some ⟨J + 1, 0, none⟩), .pointer (some ⟨J + 2, 0, none⟩), .pointer (some ⟨J + 3, 0, none⟩), .int .i64 f.nx, .pointer (some ⟨E, 0, none⟩), .pointer (some ⟨B, 0, none⟩), .int .i64 0, .int .i64 0, .bool false, undef, .pointer (some ⟨B, 0, none⟩), .agg #[.pointer (some ⟨B, 0, none⟩), .slice none 0 0], .pointer (some ⟨J, 0, none⟩), .pointer (some ⟨B, 0, none⟩), .slice A2 b.length c2, .func (.func 157) #[] #[.pointer (some ⟨Bb, 0, none⟩)], .int .i64 f.nx, .agg #[.int .i64 f.x.f0, .int .i64 f.x.f1, .int .i64 f.x.f2.f0, .int .i64 f.x.f2.f1, .int .i64 f.x.f2.f2, .int .i64 f.x.f2.f3, .int .i64 f.x.f2.f4, .int .i64 f.x.f2.f5, .slice f.A f.x.f2.f6.length f.c, .int .i64 f.x.f2.f7], undef, undef, undef, undef, undef, undef, undef, undef, undef, undef, undef, undef, undef, undef, undef, undef, undef, undef, undef, undef], defers := [] }) ?hIx ?assign ?body ?done
 case seq =>
  intro l J' W hW hJ' hY h0
  refine (frames1_in 2 (by decide) l Bb base A2 c2 b xs r HL.out HB.out HK3.out hblen (fun s X => J' s X ∧ base ≤ X.heap.size) (fun s X Y h hb => ⟨hJ' _ _ _ h.1 hb, Nat.le_trans h.2 hb.size⟩) ?_ W (by have := hW.size; have := HBS.out; omega)
   ((hW.block _ HX4.out.lt).trans HX4.out) (Kd.C_below HC4.out hW) ⟨h0, by have := hW.size; have := HBS.out; omega⟩ (fun _ _ h => h.2)).mono ?_
  · intro pre f W1 h1 h2
    obtain ⟨fn, tmps, assign, body, hy, hR⟩ := hY pre f W1 h1.1 h2
    refine ⟨fn, tmps, assign, body, hy, hR.mono ?_⟩
    rintro e W' ⟨he, hj, hk⟩
    exact ⟨he, ⟨hj, Nat.le_trans h1.2 hk.1⟩, hk.2 Bb hb2 (by have := HB1.out; omega) (by have := HB1.out; have := h1.2; omega), fun ad e => by
     obtain ⟨q1, q2⟩ := HA2.out ad e
     exact hk.2 _ q1 (by have := HB1.out; omega) (by have := HB1.out; have := h1.2; omega)⟩
  · rintro e W' ⟨h1, ys, h2, h3⟩
    exact ⟨h1, ys, h2, h3.1⟩
 case hI =>
  rintro ys X Y row ⟨vE, vL, h⟩ hg hr
  exact ⟨vE, vL, h.nc hg (fun r e => by rw [← HBS.out]; exact hr r e)⟩
 case hIr =>
  rintro ys X Y ⟨vE, vL, h⟩ hb
  exact ⟨vE, vL, h.below hb⟩
 case h0 => exact ⟨_, _, HI0.out⟩
 case hIx =>
  rintro pre f a' _ X Y row ⟨vE, vL, E, h1, h2, h3, h4, h5, h6, h7⟩ hg hr
  exact ⟨vE, vL, E, h1.nc hg (fun r e => by rw [← HBS.out]; exact hr r e), (hg.block _ h2.lt (fun e => by obtain ⟨_, o, ho, hc⟩ := hr _ e.symm; rw [show X.heap[E]? = _ from h2] at ho; cases ho; cases hc)).trans h2, h3, R_nc h4 hg (fun r e => (hr r e).2), h5, h6, h7⟩
 case assign =>
  rintro l pre f W K ⟨vE, vL, hI⟩ ⟨n1, n2, n3, n4⟩ hK
  have HI := Lib.hid hI
  have HN := Lib.hid n4
  have HN1 := Lib.hid n1
  have HN2 := Lib.hid n2
  clear hI n1 n2 n4
  gi_wp2
  have hb : Below W.heap.size W (W.alloc (.cells #[.int .i64 f.x.f0, .int .i64 f.x.f1, .int .i64 f.x.f2.f0, .int .i64 f.x.f2.f1, .int .i64 f.x.f2.f2, .int .i64 f.x.f2.f3, .int .i64 f.x.f2.f4, .int .i64 f.x.f2.f5, .slice f.A f.x.f2.f6.length f.c, .int .i64 f.x.f2.f7] 26)) := (Below.refl _ _).alloc (Nat.le_refl _) _
  exact hK _ _ ((JK.of_below (lo := J + 4) (base := base) hb).kf _) (JK.of_below hb).jm ⟨vE, vL, W.heap.size, HI.out.below hb, World.alloc_heap_new W _, HI.out.sz, Kd.R_below HN.out hb, HN1.out, HN2.out, rfl⟩
 case body =>
  rintro l pre f a' W ⟨vE, vL, E, h1, h2, h3, h4, h5, h6, rfl⟩
  obtain ⟨es, hes⟩ : ∃ es, endsE 0 (fedX pre) = es := ⟨_, rfl⟩
  obtain ⟨ps, hps⟩ : ∃ ps, fedX pre = ps := ⟨_, rfl⟩
  have hlen : es.length ≤ 60000 ∧ ps.length ≤ 60000 := by
   have e1 : es.length = (fedX pre).length := by rw [← hes, endsE_length]
   have e2 := congrArg List.length hps
   have e3 := flat_len_ge xs
   have e4 := HL.out.len
   have e5 := h5.length_le
   rw [List.length_append] at e5
   omega
  have HEL : Hid ((es.length + 1) * 8 ≤ 140737488355328) := Lib.hid (by omega)
  have HPL : Hid ((ps.length + 1) * 96 ≤ 140737488355328) := Lib.hid (by omega)
  have HES : Hid (endsE 0 (fedX (pre ++ [f])) = es ++ [(f.nx : Int)]) := Lib.hid (by unfold fedX; rw [List.map_append, List.map_cons, List.map_nil, endsE_snoc, Nat.zero_add]; rw [← hes, h6]; rfl)
  have HPS : Hid (fedX (pre ++ [f]) = ps ++ [f.x]) := Lib.hid (by unfold fedX; rw [List.map_append, List.map_cons, List.map_nil]; rw [← hps]; rfl)
  have HNX : Hid (((flatE (fedX (pre ++ [f]))).length : Int) = (f.nx : Int)) := Lib.hid (by unfold fedX; rw [List.map_append, List.map_cons, List.map_nil]; rw [h6]; rfl)
  rw [hes, hps] at h1
  have hbd : Below W.heap.size W W.drew := below_drew1 (Below.refl _ _)
  have HJ0 := Lib.hid (h1.below hbd)
  have HE0 := Lib.hid (h2.below hbd)
  have HT0 := Lib.hid (Kd.R_below h4 hbd)
  have HK0 := Lib.hid (JK.of_below (lo := J + 4) (base := base) hbd)
  obtain ⟨AE, cE, rfl, _, _⟩ := IR.len h1.ends
  obtain ⟨AL, cL, rfl, _, _⟩ := ER.C h1.ents
  have HE3 := Lib.hid h3
  clear hes hps hlen h1 h2 h3 h4 h5 h6 hbd
  gi_wp2
  refine start_in (n := 11) (S := fun w' => w'.cell? ⟨J + 1, 0, none⟩ = some (.pointer (some ⟨J, 0, none⟩)) ∧ w'.cell? ⟨J, 1, none⟩ = some (.slice AE es.length cE)) (ds := [10]) #[false, false, false, false, false, false, false, false, false, false, false] (by kernel_rfl) (by kernel_rfl) (by rintro ⟨_, _, h⟩; exact h) rfl rfl ⟨HJ0.out.jv.cell, HJ0.out.jr.c1⟩ (fun hHeld => ?_); refine with_tabW jopR10.tab jopR10.bits (fun HT_ HW_ => ?_)
  obtain ⟨WD, hWD⟩ : ∃ X, W.drew = X := ⟨_, rfl⟩
  rw [hWD] at hHeld HJ0 HE0 HT0 HK0 ⊢
  have HJD := HJ0
  clear hWD
  refine pure_ (i := 5) (N := (some 29)) (v := ?_) (a' := ?_) #[false, false, false, false, false, true, false, false, false, false, false] rfl rfl (any_of HT_.out (by kernel_rfl)) (fun _ _ _ h => h) (Or.inl ⟨by rfl, ?_⟩) ?_ ?_
  rotate_left
  · intro w'
    go_simp
    with_reducible rfl
  rotate_left
  · simp only [Act.put, sA_, sB_, sC_, i64_w, i32_w]
    rfl
  refine take_ (i := 0) (N := (some 24)) (v := ?_) (a' := ?_) #[true, false, false, false, false, true, false, false, false, false, false] rfl rfl (take_ofW HT_.out HW_.out (by kernel_rfl)) (fun _ _ _ h => h) (Or.inl ⟨by rfl, ?_⟩) hHeld ?_ ?_
  rotate_left
  · rintro w' ⟨s0, s1⟩
    go_simp
    with_reducible rfl
  rotate_left
  · simp only [Act.put, sA_, sB_, sC_, i64_w, i32_w]
    rfl
  refine take_ (i := 1) (N := (some 25)) (v := ?_) (a' := ?_) #[true, true, false, false, false, true, false, false, false, false, false] rfl rfl (take_ofW HT_.out HW_.out (by kernel_rfl)) (fun _ _ _ h => h) (Or.inl ⟨by rfl, ?_⟩) hHeld ?_ ?_
  rotate_left
  · rintro w' ⟨s0, s1⟩
    go_simp
    with_reducible rfl
  rotate_left
  · simp only [Act.put, sA_, sB_, sC_, i64_w, i32_w]
    rfl
  refine pure_ (i := 2) (N := (some 26)) (v := ?_) (a' := ?_) #[true, true, true, false, false, true, false, false, false, false, false] rfl rfl (any_of HT_.out (by kernel_rfl)) (fun _ _ _ h => h) (Or.inl ⟨by rfl, ?_⟩) ?_ ?_
  rotate_left
  · intro w'
    go_simp
    with_reducible rfl
  rotate_left
  · simp only [Act.put, sA_, sB_, sC_, i64_w, i32_w]
    rfl
  refine pure_ (i := 3) (N := (some 27)) (v := ?_) (a' := ?_) #[true, true, true, true, false, true, false, false, false, false, false] rfl rfl (any_of HT_.out (by kernel_rfl)) (fun _ _ _ h => h) (Or.inl ⟨by rfl, ?_⟩) ?_ ?_
  rotate_left
  · intro w'
    go_simp
    with_reducible rfl
  rotate_left
  · simp only [Act.put, sA_, sB_, sC_, i64_w, i32_w]
    rfl
  refine take_ (i := 4) (N := (some 28)) (v := ?_) (a' := ?_) #[true, true, true, true, true, true, false, false, false, false, false] rfl rfl (take_ofW HT_.out HW_.out (by kernel_rfl)) (fun _ _ _ h => h) (Or.inl ⟨by rfl, ?_⟩) hHeld ?_ ?_
  rotate_left
  · rintro w' ⟨s0, s1⟩
    go_simp
    with_reducible rfl
  rotate_left
  · simp only [Act.put, sA_, sB_, sC_, i64_w, i32_w]
    rfl
  refine one_ (i := 6) (N := (some 30)) #[true, true, true, true, true, true, true, false, false, false, false] rfl rfl (one_of HT_.out (by kernel_rfl)) (by decide) (fun K hK => ?_)
  refine value_ (w1 := WD.alloc (.cells #[.int .i64 f.nx] 3)) (v := .slice (some ⟨WD.heap.size, 0, none⟩) 1 1) (by rfl) rfl ?_ ?_
  · go_simp
    try rfl
  refine hK.out _ _ ⟨(HJD.out.below ((Below.refl WD.heap.size WD).alloc (Nat.le_refl _) (.cells #[.int .i64 f.nx] 3))).jv.cell, (HJD.out.below ((Below.refl WD.heap.size WD).alloc (Nat.le_refl _) (.cells #[.int .i64 f.nx] 3))).jr.c1⟩ (fun hHeld => ?_)
  clear hK K
  refine norm_ (a' := ?_) ?_ ?_
  rotate_left
  · show Act.put _ (some 30) _ = _
    simp only [Act.put, sA_, sB_, sC_, i64_w, i32_w]
    rfl
  refine one_ (i := 7) (N := (some 31)) #[true, true, true, true, true, true, true, true, false, false, false] rfl rfl (one_of HT_.out (by kernel_rfl)) (by decide) (fun K hK => ?_)
  refine Kd.R_append_step (Kd.int .i64) (w0 := WD) (W := WD) base (by rfl) (.tmp 28) (.tmp 30) 42 3 (.int .i64 0) 8 rfl Try.underlying42 info_int rfl (by decide) (by decide) (.slice AE es.length cE) es (f.nx : Int) [.int .i64 (f.nx : Int)] (fun _ => True) (fun _ => False) rfl rfl rfl (fun _ h => h.elim) (fun _ _ => trivial) HJD.out.ends (Below.refl _ _) HJD.out.sz HEL.out ?_
  intro v4 w4 hr4 hb4 hg4 hat4
  have HG4 := Lib.hid hg4
  obtain ⟨zs, hzs⟩ : ∃ zs, es ++ [(f.nx : Int)] = zs := ⟨_, rfl⟩
  rw [hzs] at hr4
  have HZS := Lib.hid hzs
  obtain ⟨A5, k5, rfl, _, _⟩ := IR.len hr4
  have HR4 := Lib.hid hr4
  obtain ⟨hh1, hh2, hh3⟩ := HJD.out.held hg4
  clear hr4 hb4 hg4 hat4 hzs
  refine hK.out _ _ ⟨hh1, hh2⟩ (fun hHeld => ?_)
  clear hK K
  refine norm_ (a' := ?_) ?_ ?_
  rotate_left
  · show Act.put _ (some 31) _ = _
    simp only [Act.put, sA_, sB_, sC_, i64_w, i32_w]
    rfl
  refine pure_ (i := 8) (N := (some 32)) (v := ?_) (a' := ?_) #[true, true, true, true, true, true, true, true, true, false, false] rfl rfl (any_of HT_.out (by kernel_rfl)) (fun _ _ _ h => h) (Or.inl ⟨by rfl, ?_⟩) ?_ ?_
  rotate_left
  · intro w'
    go_simp
    with_reducible rfl
  rotate_left
  · simp only [Act.put, sA_, sB_, sC_, i64_w, i32_w]
    rfl
  refine pure_ (i := 9) (N := (some 33)) (v := ?_) (a' := ?_) #[true, true, true, true, true, true, true, true, true, true, false] rfl rfl (any_of HT_.out (by kernel_rfl)) (fun _ _ _ h => h) (Or.inl ⟨by rfl, ?_⟩) ?_ ?_
  rotate_left
  · intro w'
    go_simp
    with_reducible rfl
  rotate_left
  · simp only [Act.put, sA_, sB_, sC_, i64_w, i32_w]
    rfl
  refine last_ (i := 10) (N := none) #[true, true, true, true, true, true, true, true, true, true, true] rfl rfl (one_of HT_.out (by kernel_rfl)) (by decide) (fun K hK => ?_)
  refine skip_ (w1 := w4.setCell ⟨J, 1, none⟩ (.slice A5 zs.length k5)) (by rfl) rfl ?_ ?_
  · go_simp
    try rfl
  refine hK.out _ _ ?_
  clear hK K
  refine done_ (done_of HT_.out (by kernel_rfl)) ?_
  have hJ5 := HJD.out.putE HG4.out HR4.out
  have HK5 := Lib.hid (HK0.out.trans (HJD.out.keepE (v' := .slice A5 zs.length k5) HG4.out))
  have hEne : some E ≠ (Value.slice AE es.length cE).ownBlock := fun e => by
   obtain ⟨cs, hc⟩ := R_typ HJD.out.ends _ e.symm
   rw [show WD.heap[E]? = _ from HE0.out] at hc
   cases hc
  have HE5 : Hid (EntAt (w4.setCell ⟨J, 1, none⟩ (.slice A5 zs.length k5)) E f.x f.A f.c) := Lib.hid ((Below.heap_setCell _ _ _ _ (by show E ≠ J; have := HJD.out.j1; have := HE3.out; omega)).trans ((HG4.out.block _ HE0.out.lt hEne).trans HE0.out))
  have HT5 : Hid (TR (w4.setCell ⟨J, 1, none⟩ (.slice A5 zs.length k5)) base (.slice f.A f.x.f2.f6.length f.c) f.x.f2.f6) := Lib.hid (TR.set (R_typed HT0.out (t := 3) (by decide) HG4.out (R_typ HJD.out.ends)) (by have := HJD.out.j1; omega) 1 _)
  have HJ5 := Lib.hid hJ5
  obtain ⟨w5, hw5⟩ : ∃ w5, w4.setCell ⟨J, 1, none⟩ (.slice A5 zs.length k5) = w5 := ⟨_, rfl⟩
  rw [hw5] at HJ5 HK5 HE5 HT5 ⊢
  clear hJ5 hEne hw5 HR4 HG4 HJD HJ0 HK0 HE0 HT0 hHeld
  obtain ⟨q0, q1, q2, q3, q4, q5, q6, q7, q8, q9⟩ := HE5.out.c
  have cL5 := HJ5.out.lv.cell
  gi_wp2_with (gi_at_builtin; refine stepIn_of (by rfl) (by intro c h; cases h) ?_; refine Kd.R_append_step Go.Proofs.Ytmbnjgnmblgjoaa.K.k26 (w0 := w5) (W := w5) base (by rfl) (.tmp 34) (.tmp 36) 69 26 (.agg #[.int .i64 0, .int .i64 0, .int .i64 0, .int .i64 0, .int .i64 0, .int .i64 0, .int .i64 0, .int .i64 0, .slice none 0 0, .int .i64 0]) 96 rfl Try.underlying69 info_ent rfl (by decide) (by decide) (.slice AL ps.length cL) ps f.x [.int .i64 f.x.f0, .int .i64 f.x.f1, .int .i64 f.x.f2.f0, .int .i64 f.x.f2.f1, .int .i64 f.x.f2.f2, .int .i64 f.x.f2.f3, .int .i64 f.x.f2.f4, .int .i64 f.x.f2.f5, .slice f.A f.x.f2.f6.length f.c, .int .i64 f.x.f2.f7] (fun _ => True) (fun j => some j = (Value.slice f.A f.x.f2.f6.length f.c).ownBlock) rfl rfl (Go.Proofs.Ytmbnjgnmblgjoaa.K.k26_mkM _ _ _ _ (TR.tight HT5.out)) (fun j hj => ⟨trivial, fun e => apart_types (R_typ HT5.out j hj.symm) (R_typ HJ5.out.ents j e.symm) (by decide)⟩) (fun _ _ => trivial) HJ5.out.ents (Below.refl _ _) HJ5.out.sz HPL.out ?_; intro v6 w6 hr6 hb6 hg6 hat6; obtain ⟨zl, hzl⟩ : ∃ zl, ps ++ [f.x] = zl := ⟨_, rfl⟩; rw [hzl] at hr6; obtain ⟨A6, k6, rfl, _, _⟩ := ER.C hr6; have HZL := Lib.hid hzl; have HR6 := Lib.hid hr6; have HG6 := Lib.hid hg6; obtain ⟨hc6, hf6⟩ := HJ5.out.held2 hg6; have HJ7 := Lib.hid (HJ5.out.putL hg6 hr6); have HK7 := Lib.hid (HK5.out.trans (HJ5.out.keepL (v' := .slice A6 zl.length k6) hg6)); have hc7 := HJ7.out.av.cell; have hf7 := HJ7.out.av.frozen; clear hr6 hb6 hg6 hat6 hzl q0 q1 q2 q3 q4 q5 q6 q7 q8 q9 cL5)
  have hJ8 := HJ7.out.putA (f.nx : Int)
  have hK8 := HK7.out.trans (HJ7.out.keepA (f.nx : Int))
  refine ⟨hK8.kf _, hK8.jm, .slice A5 zs.length k5, .slice A6 zl.length k6, ?_⟩
  rw [HNX.out, HES.out, HPS.out, HZS.out, HZL.out]
  exact hJ8
 case done =>
  rintro D ys W hD hys ⟨vE, vL, hI⟩ hdf
  rw [hys] at hI
  have HI := Lib.hid hI
  have HDF := Lib.hid hdf
  have hDW := HD1.out.below HI.out.bel (Nat.le_refl _)
  have HC := Lib.hid (cut_is hDW (flatE xs).length HL.out.len)
  have ca := hI.av.cell
  obtain ⟨AE, cE, rfl, _, _⟩ := IR.len hI.ends
  obtain ⟨AL, cL, rfl, _, _⟩ := ER.C hI.ents
  clear hI hdf hDW
  go_wp2_with (go_at_call 35; refine HC.out.mono ?_; rintro e w8 ⟨rfl, v8, hd, hst⟩; have HD8 := Lib.hid hd; have HS8 := Lib.hid hst; clear hd hst)
  have hBJ : B < J ∧ (∀ k, v1.ownBlock = some k → k < J) := ⟨by have := HD1.out.cells.lt; have := HJ.out; omega, fun k hk => by have := (HD1.out.row.block hk).2.1; have := HJ.out; omega⟩
  have hmv : ∀ k, k < W.heap.size → J ≤ k → w8.heap[k]? = W.heap[k]? := fun k hk hj => HS8.out.block k hk (by omega) (fun e => by have := hBJ.2 _ e.symm; omega)
  have j1 := HI.out.j1
  have hJ8 : JAt w8 J B (.slice AE (endsE 0 xs).length cE) := HI.out.jr.ne (hmv _ HI.out.jr.lt (Nat.le_refl _))
  have hV8 : Boxed w8 (J + 1) 106 (.pointer (some ⟨J, 0, none⟩)) := (hmv _ HI.out.jv.lt (by omega)).trans HI.out.jv
  have hL8 : Boxed w8 (J + 2) 69 (.slice AL xs.length cL) := (hmv _ HI.out.lv.lt (by omega)).trans HI.out.lv
  have hE8 : IR w8 base (.slice AE (endsE 0 xs).length cE) (endsE 0 xs) := Kd.R_mono (Kd.R_move (Kd.R_bound HI.out.ends) (fun k hk => hmv k hk.2.2.1 (by have := hk.2.1; omega))) (fun _ _ => trivial)
  have hX8 : ER w8 base (.slice AL xs.length cL) xs := Kd.R_mono (Kd.R_move (Kd.R_bound HI.out.ents) (fun k hk => hmv k hk.2.2.1 (by have := hk.2.1; omega))) (fun _ _ => trivial)
  have hM8 : w8.heap[D]? = some (.deferred (some [])) := (hmv D (Array.getElem?_eq_some_iff.1 HDF.out).1 (by have := HBS.out; omega)).trans HDF.out
  have hS8 : DStep w w8 B v v8 := HS1.out.then_ ((DStep.of_below_ B v1 HI.out.bel).then_ HS8.out)
  have c1 := hV8.cell
  have c2 := hL8.cell
  have H1 := Lib.hid hJ8
  have H2 := Lib.hid hE8
  have H3 := Lib.hid hX8
  have H4 := Lib.hid hM8
  have H5 := Lib.hid hS8
  have HN0 : Hid (w.heap.size ≤ J ∧ w.heap.size ≤ D ∧ w.heap.size ≤ base) := Lib.hid (by have := HS1.out.size; have := HJ.out; have := HBS.out; omega)
  clear hBJ hmv j1 hJ8 hV8 hL8 hE8 hX8 hM8 hS8
  go_quiet (fail)
  go_wp2
  refine leaves_marks (n0 := w.heap.size) [{ target := .collected D, args := #[] }] _ ⟨⟨D, rfl, HN0.out.2.1, by simpa using H4.out, fun d hd => by cases hd⟩, trivial⟩ (fun W' hs => ?_)
  refine ⟨.tuple #[.pointer (some ⟨J, 0, none⟩), .slice AL xs.length cL, .int .i64 0], by simp [results, Try.results72, go_sem], J, .slice AE (endsE 0 xs).length cE, _, v8, rfl, HN0.out.1, ?_, ?_, ?_, ?_, ?_⟩
  · exact hs.cells _ _ (show (w8.drewN nq).heap[J]? = _ from ((pw_below_drewN (Below.refl _ _) nq : Below w8.heap.size w8 (w8.drewN nq)).block _ H1.out.lt).trans H1.out) rfl
  · exact R_cells (Kd.R_lower (Kd.R_below H2.out (pw_below_drewN (Below.refl _ _) nq)) HN0.out.2.2) hs.cells
  · exact R_cells (Kd.R_lower (Kd.R_below H3.out (pw_below_drewN (Below.refl _ _) nq)) HN0.out.2.2) hs.cells
  · have := (HD8.out.below (pw_below_drewN (Below.refl _ _) nq) (Nat.le_refl _)).shut hs
    rwa [HL.out.take] at this
  · exact (H5.out.then_ (DStep.of_below_ B v8 (pw_below_drewN (Below.refl _ _) nq))).shut hs
end Go.Proofs.Ytmbnjgnmblgjoaa.Man
end
section
namespace Go.Proofs.Ytmbnjgnmblgjoaa.Man
open Go.RowKit Go.Shelf Go.Proofs.YtmbnjgnmblgjoaaW.PrintWords Go.Proofs.YtmbnjgnmblgjoaaW.PrintLast Go.Proofs.YtmbnjgnmblgjoaaW.PrintMore
set_option linter.unusedVariables false
set_option linter.unusedSimpArgs false
set_option maxRecDepth 100000
theorem IR.full (W : World) (ty : TypeId) (A : Option Addr) (xs : List Int) (y : Int) (HR : Kd.C (Kd.int .i64) W A xs.length xs) (hl : (xs.length + 1) * 8 ≤ 140737488355328) :
 ∃ v1 w1, (Builtin.append_ #[42, 42] ty #[.slice A xs.length xs.length, .slice (some ⟨W.heap.size, 0, none⟩) 1 1]).run Try.prog (W.alloc (.cells #[.int .i64 y] 3)) = .ok v1 w1 ∧ IR w1 W.heap.size v1 (xs ++ [y]) ∧ Below W.heap.size W w1 := by
 have hR := Kd.reads_of_C (enc := Value.int .i64) (d := (0 : Int)) (h1 := fun _ => rfl) (Kd.C_below HR ((Below.refl W.heap.size W).alloc (Nat.le_refl _) (.cells #[.int .i64 y] 3)))
 have ht : Try.prog.underlying 42 = some (.slice 3) := by kernel_rfl
 obtain ⟨i0, hi, hzz⟩ := Option.map_eq_some_iff.1 info_int
 simp only [Prod.mk.injEq] at hzz
 obtain ⟨hz0, hz1, hz2⟩ := hzz
 have hb : Below W.heap.size W (W.alloc (.cells #[.int .i64 y] 3)) := (Below.refl _ _).alloc (Nat.le_refl _) _
 have hcells : ∀ j u, ([Value.int .i64 y])[j]? = some u → (W.alloc (.cells #[.int .i64 y] 3)).cell? ((⟨W.heap.size, 0, none⟩ : Addr).add j) = some u := by
  intro j u hu
  rcases j with _ | j
  · simp only [List.getElem?_cons_zero, Option.some.injEq] at hu
    subst hu
    rw [Addr.add_lit]
    exact (Boxed.new W _ _).cell
  · simp at hu
 rcases A with _ | ad
 · have h0 : xs.length = 0 := by
    rcases Nat.eq_zero_or_pos xs.length with h0 | h0
    · exact h0
    · obtain ⟨ad, h, _⟩ := hR.2.2 h0
      cases h
   obtain rfl : xs = [] := List.eq_nil_of_length_eq_zero h0
   obtain ⟨v1, w1, hr, q2, q3, _⟩ := run_append_own_at (P := Try.prog) (W.alloc (.cells #[.int .i64 y] 3)) W.heap.size 42 ty 3 i0 (.int .i64 0) 1 8 ht hi hz0 hz1 hz2 rfl (by omega) (.slice none 0 0) 0 [] (World.ownsRow_nil _ W.heap.size _ 1) ⟨W.heap.size, 0, none⟩ 1 1 [.int .i64 y] rfl hcells (by intro u hu; simp only [List.mem_singleton] at hu; subst hu; rfl) (by simp only [maxLen]; omega) (by omega) hb.size
   exact ⟨v1, w1, hr, Kd.R_of_own (by simpa [encs] using q2) (fun _ _ => trivial), hb.grown q3 hb.size (fun r e => by cases e)⟩
 · obtain ⟨v1, w1, hr, q2, q3⟩ := run_append_arg_grows (P := Try.prog) (W.alloc (.cells #[.int .i64 y] 3)) 42 ty 3 i0 (.int .i64 0) 1 8 ht hi hz0 hz1 hz2 rfl (by omega) ad xs.length xs.length (encs (Value.int .i64) xs) (by simp [encs]) (fun j u hu => by
    have hj : j < xs.length := by
     rcases Nat.lt_or_ge j xs.length with h | h
     · exact h
     · simp [encs, List.getElem?_eq_none h] at hu
    obtain ⟨ad', h', hc⟩ := hR.2.2 (by omega)
    injection h' with h'
    subst h'
    rw [encs_get (d := (0 : Int)) xs j hj] at hu
    rw [← hu]
    exact hc j (by omega)) ⟨W.heap.size, 0, none⟩ 1 1 [.int .i64 y] rfl hcells (by omega) (by simp only [maxLen]; omega) (by omega)
   exact ⟨v1, w1, hr, Kd.R_lower (Kd.R_of_own (by simpa [encs] using q2) (fun _ _ => trivial)) (by simp), hb.grown q3 hb.size (fun r e => by cases e)⟩
def frameErr (x : K.S26) : Int := if entryE x = 0 then (wrapF (entryB x)).2 else entryE x
theorem frameErr_fine {x : K.S26} : frameErr x = 0 ↔ Fine x := by
 unfold frameErr Fine wrapF
 by_cases h : entryE x = 0
 · rw [if_pos h]
   by_cases h2 : 65536 < (entryB x).length
   · rw [if_pos h2]; constructor
     · intro h3; cases h3
     · intro h3; omega
   · rw [if_neg h2]; exact ⟨fun _ => ⟨h, by omega⟩, fun _ => rfl⟩
 · rw [if_neg h]; exact ⟨fun h3 => absurd h3 h, fun h3 => absurd h3.1 h⟩
theorem wrap_err (b : List Int) : (wrapF b).2 ≠ 0 → (wrapF b).1 = [] := by
 unfold wrapF; split
 · exact fun _ => rfl
 · exact fun h => absurd rfl h
theorem wrap_ok (b : List Int) : (wrapF b).2 = 0 → (wrapF b).1 = frameF b := by
 unfold wrapF; split
 · intro h; cases h
 · exact fun _ => rfl
set_option maxHeartbeats 8000000 in
theorem frame_is (x : K.S26) (A : Option Addr) (c : Nat) (w : World) (hr : Kd.C K.k111 w A x.f2.f6.length x.f2.f6) (hc : x.f2.f6.length ≤ c) :
 Calls Try.prog 139 #[entV x A c] w fun e w' => ∃ v, e = .returned (.tuple #[v, .int .i64 (frameErr x)]) ∧ BR w' w.heap.size v (if frameErr x = 0 then entF x else []) ∧ Below w.heap.size w w' := by
 obtain ⟨w1, hw1⟩ : ∃ w1, w.alloc (entO x A c) = w1 := ⟨_, rfl⟩
 have hb1 : Below w.heap.size w w1 := by rw [← hw1]; exact (Below.refl _ _).alloc (Nat.le_refl _) _
 have hE1 : EntAt w1 w.heap.size x A c := by rw [← hw1]; exact World.alloc_heap_new w _
 have hP := putEntry_is x A c w1 (Kd.C_below hr hb1) hc
 have HP := Lib.hid hP
 have HB1 := Lib.hid hb1
 have HE1 := Lib.hid hE1
 have HW1 := Lib.hid hw1
 clear hP hb1 hE1 hr hw1
 obtain ⟨F, hF⟩ : ∃ F, frameErr x = F := ⟨_, rfl⟩
 rw [hF]
 obtain ⟨res, hres⟩ : ∃ res, (if F = 0 then entF x else []) = res := ⟨_, rfl⟩
 rw [hres]
 have HRES := Lib.hid hres
 clear hres
 unfold entV
 by_cases h0 : entryE x = 0
 · have hp : putEntryF x = (entryB x, 0) := put_ent h0
   have hP := HP.out
   rw [h0, hp] at hP
   have HP0 := Lib.hid hP
   unfold frameErr at hF
   rw [if_pos h0] at hF
   have HFF := Lib.hid hF
   clear hP hp hF h0 HP
   go_enter Try.func139, Try.ntmps139
   go_upto_region 1 with (fail)
   rw [HW1.out]
   obtain ⟨q0, q1, q2, q3, q4, q5, q6, q7, q8, q9⟩ := HE1.out.c
   go_wp2_with (first
    | (go_at_call 19; refine HP0.out.mono ?_; rintro e w2 ⟨v, rfl, hr, hb⟩; obtain ⟨A2, k2, rfl, hk2, hC2⟩ := BR.len hr; have hQ := wrap_any A2 k2 (entryB x) w2 hC2 (entryB_bytes x); rw [HFF.out] at hQ; have HQ := Lib.hid hQ; have HB2 := Lib.hid (HB1.out.trans (hb.mono HB1.out.size)); clear hr hb hC2 hQ hk2)
    | (go_at_call 21; refine HQ.out.mono ?_; rintro e w3 ⟨v, rfl, hr, hb⟩; obtain ⟨A3, k3, rfl, _, _⟩ := BR.len hr; have HR3 := Lib.hid (Kd.R_lower hr HB2.out.size); have HB3 := Lib.hid (HB2.out.trans (hb.mono HB2.out.size)); clear hr hb))
   go_ret2
   refine ⟨_, rfl, ?_, HB3.out⟩
   have h3 := HR3.out
   rw [← HRES.out]
   by_cases hz : F = 0
   · rw [if_pos hz]
     have h4 := wrap_ok (entryB x) (by rw [HFF.out]; exact hz)
     rw [h4] at h3 ⊢
     exact h3
   · rw [if_neg hz]
     have h4 := wrap_err (entryB x) (by rw [HFF.out]; exact hz)
     rw [h4] at h3 ⊢
     exact h3
 · unfold frameErr at hF
   rw [if_neg h0] at hF
   have hP := HP.out
   rw [hF] at hP h0
   have t0 : (F != 0) = true := by simpa using h0
   have HP0 := Lib.hid hP
   clear hP hF HP
   go_enter Try.func139, Try.ntmps139
   go_upto_region 1 with (fail)
   rw [HW1.out]
   obtain ⟨q0, q1, q2, q3, q4, q5, q6, q7, q8, q9⟩ := HE1.out.c
   go_wp2_with (go_at_call 19; refine HP0.out.mono ?_; rintro e w2 ⟨v, rfl, hr, hb⟩; obtain ⟨A2, k2, rfl, hk2, hC2⟩ := BR.len hr; have HB2 := Lib.hid (HB1.out.trans (hb.mono HB1.out.size)); clear hr hb hC2 hk2)
   go_ret2
   exact ⟨_, rfl, by rw [← HRES.out, if_neg h0]; exact Kd.R_nil _ _ _ _ _, HB2.out⟩
structure JS (w : World) (base J D : Nat) (vE v : Value) (es b : List Int) (s m : Int) : Prop where
 jat : JAt w J D vE
 row : ∃ A c, vE = .slice A es.length c ∧ es.length ≤ c ∧ Kd.C (Kd.int .i64) w A es.length es
 typ : ∀ k, vE.ownBlock = some k → base ≤ k ∧ ∃ cs, w.heap[k]? = some (.cells cs 3 (0, 0))
 disk : DiskS w base D v b s m
 jge : base ≤ J
structure JStep (w w' : World) (J D : Nat) (v v' vE vE' : Value) : Prop where
 os : w'.os = w.os
 tape : w'.tape = w.tape
 output : w'.output = w.output
 size : w.heap.size ≤ w'.heap.size
 block : ∀ k, k < w.heap.size → k ≠ J → k ≠ D → some k ≠ v.ownBlock → w'.heap[k]? = w.heap[k]?
 row : v'.ownBlock = v.ownBlock ∨ ∃ b, v'.ownBlock = some b ∧ w.heap.size ≤ b
 ends : vE'.ownBlock = vE.ownBlock ∨ vE'.ownBlock = none ∨ ∃ b, vE'.ownBlock = some b ∧ w.heap.size ≤ b
section
variable {w w1 w2 : World} {base J D J' D' : Nat} {vE v vE' v' uE u : Value} {es es' b b' : List Int} {s m s' m' : Int}
theorem JS.lt (h : JS w base J D vE v es b s m) : J < w.heap.size := h.jat.lt
theorem C_typ {w w1 : World} {A : Option Addr} {n c : Nat} {xs : List Int} (h : Kd.C (Kd.int .i64) w A n xs) (hm : ∀ k, (Value.slice A n c).ownBlock = some k → w1.heap[k]? = w.heap[k]?) : Kd.C (Kd.int .i64) w1 A n xs :=
 C_moveK h (fun ad e => hm _ (by rw [e]; rfl))
theorem JS.move (h : JS w base J D vE v es b s m) (hJ : w1.heap[J]? = w.heap[J]?) (hE : ∀ k, vE.ownBlock = some k → w1.heap[k]? = w.heap[k]?) (hd : DiskS w1 base D v' b' s' m') : JS w1 base J D vE v' es b' s' m' := by
 obtain ⟨A, c, rfl, hc, hC⟩ := h.row
 exact ⟨h.jat.ne hJ, ⟨A, c, rfl, hc, C_typ hC hE⟩, fun k hk => ⟨(h.typ k hk).1, by rw [hE k hk]; exact (h.typ k hk).2⟩, hd, h.jge⟩
theorem JS.elt (h : JS w base J D vE v es b s m) (k : Nat) (hk : vE.ownBlock = some k) : k < w.heap.size := by
 obtain ⟨_, cs, hc⟩ := h.typ k hk
 exact (Array.getElem?_eq_some_iff.1 hc).1
theorem JS.below {n : Nat} (h : JS w base J D vE v es b s m) (hb : Below n w w1) (hn : w.heap.size ≤ n) : JS w1 base J D vE v es b s m :=
 h.move (hb.block _ (by have := h.lt; omega)) (fun k hk => hb.block _ (by have := h.elt k hk; omega)) (h.disk.below hb hn)
theorem JS.neD (h : JS w base J D vE v es b s m) : J ≠ D := fun e => by
 have h1 := h.jat
 have h2 := h.disk.cells
 subst e
 unfold JAt at h1
 unfold DiskAt at h2
 rw [h1] at h2
 cases h2
theorem JS.neV (h : JS w base J D vE v es b s m) : some J ≠ v.ownBlock := fun e => by
 obtain ⟨_, _, cur, hc⟩ := h.disk.row.block e.symm
 rw [show w.heap[J]? = _ from h.jat] at hc
 cases hc
theorem JS.eneD (h : JS w base J D vE v es b s m) (k : Nat) (hk : vE.ownBlock = some k) : k ≠ D := fun e => by
 obtain ⟨_, cs, hc⟩ := h.typ k hk
 subst e
 rw [show w.heap[k]? = _ from h.disk.cells] at hc
 cases hc
theorem JS.eneV (h : JS w base J D vE v es b s m) (k : Nat) (hk : vE.ownBlock = some k) : some k ≠ v.ownBlock := fun e => by
 obtain ⟨_, cs, hc⟩ := h.typ k hk
 obtain ⟨_, _, cur, hc'⟩ := h.disk.row.block e.symm
 rw [hc] at hc'
 cases hc'
theorem JS.acted (h : JS w base J D vE v es b s m) (st : DStep w w1 D v v') (hd : DiskS w1 base D v' b' s' m') : JS w1 base J D vE v' es b' s' m' :=
 h.move (st.block _ h.lt h.neD h.neV) (fun k hk => st.block _ (h.elt k hk) (h.eneD k hk) (h.eneV k hk)) hd
theorem JStep.of_disk (J : Nat) (vE : Value) (st : DStep w w1 D v v') : JStep w w1 J D v v' vE vE := ⟨st.os, st.tape, st.output, st.size, fun k hk _ h1 h2 => st.block k hk h1 h2, st.row, .inl rfl⟩
theorem JStep.of_below (J D : Nat) (v vE : Value) (h : Below w.heap.size w w1) : JStep w w1 J D v v vE vE := ⟨h.os, h.tape, h.output, h.size, fun k hk _ _ _ => h.block k hk, .inl rfl, .inl rfl⟩
theorem JStep.trans {v1 v2 e0 e1 e2 : Value} (h : JStep w w1 J D v v1 e0 e1) (k : JStep w1 w2 J D v1 v2 e1 e2) : JStep w w2 J D v v2 e0 e2 := by
 refine ⟨k.os.trans h.os, k.tape.trans h.tape, k.output.trans h.output, Nat.le_trans h.size k.size, fun j hj hJ hD hv => (k.block j (by have := h.size; omega) hJ hD ?_).trans (h.block j hj hJ hD hv), ?_, ?_⟩
 · rcases h.row with e | ⟨b, e, hb⟩
   · rw [e]; exact hv
   · rw [e]; intro q; cases q; omega
 · rcases k.row with e | ⟨b, e, hb⟩
   · rw [e]; exact h.row
   · exact .inr ⟨b, e, by have := h.size; omega⟩
 · rcases k.ends with e | e | ⟨b, e, hb⟩
   · rw [e]; exact h.ends
   · exact .inr (.inl e)
   · exact .inr (.inr ⟨b, e, by have := h.size; omega⟩)
theorem JStep.belowJ (h : JStep w w1 J D v v' vE vE') (k : JS w base J D vE v es b s m) : Below base w w1 :=
 ⟨h.os, h.tape, h.output, h.size, fun i hi => h.block i (by have := k.lt; have := k.jge; omega) (by have := k.jge; omega) (by have := k.disk.at_; omega) (fun e => by have := (k.disk.row.block e.symm).1; omega)⟩
theorem jnone_is (h : JS w base J D vE v es b s m) : Calls Try.prog 137 #[.pointer (some ⟨J, 0, none⟩)] w fun e w' => e = .returned (.bool false) ∧ w = w' := by
 have c0 := h.jat.c0
 clear h
 go_enter Try.func137, Try.ntmps137
 go_wp2
 go_ret
 exact ⟨rfl, rfl⟩
theorem jlen_is (h : JS w base J D vE v es b s m) : Calls Try.prog 74 #[.pointer (some ⟨J, 0, none⟩)] w fun e w' => e = .returned (.int .i64 (es.length : Int)) ∧ w = w' := by
 have c1 := h.jat.c1
 obtain ⟨A, c, rfl, hc, hC⟩ := h.row
 have H := Lib.hid h
 clear h hC
 go_enter Try.func74, Try.ntmps74
 go_wp2_with (go_at_call 137; refine (jnone_is H.out).mono ?_; rintro e w' ⟨rfl, rfl⟩)
 go_ret
 exact ⟨rfl, rfl⟩
theorem jsync_is (h : JS w base J D vE v es b s m) : Calls Try.prog 77 #[.pointer (some ⟨J, 0, none⟩)] w fun e w' => e = .returned (.int .i64 0) ∧ JS w' base J D vE v es b (b.length : Int) m ∧ JStep w w' J D v v vE vE := by
 have c0 := h.jat.c0
 have H := Lib.hid h
 clear h
 go_enter Try.func77, Try.ntmps77
 go_wp2_with (first
  | (go_at_call 137; refine (jnone_is H.out).mono ?_; rintro e w' ⟨rfl, rfl⟩)
  | (go_at_call 32; refine (sync_is H.out.disk).mono ?_; rintro e w1 ⟨rfl, hd, hs⟩; have HD := Lib.hid hd; have HS := Lib.hid hs; clear hd hs))
 go_ret
 exact ⟨rfl, H.out.acted HS.out HD.out, JStep.of_disk _ _ HS.out⟩
end
end Go.Proofs.Ytmbnjgnmblgjoaa.Man
end
section
namespace Go.Proofs.Ytmbnjgnmblgjoaa.Man
open Go.RowKit Go.Shelf Go.Proofs.YtmbnjgnmblgjoaaW.PrintWords Go.Proofs.YtmbnjgnmblgjoaaW.PrintLast Go.Proofs.YtmbnjgnmblgjoaaW.PrintMore
set_option linter.unusedVariables false
set_option linter.unusedSimpArgs false
set_option maxRecDepth 100000
theorem log_nil : LogOf [] [] [] := ⟨rfl, fun x hx => (by cases hx), stop_nil⟩
set_option maxHeartbeats 4000000 in
theorem awake18_is (w : World) : Calls Try.prog 71 #[] w fun e w' => e = .returned (.bool true) ∧ Below w.heap.size w w' := by
 go_enter Try.func71, Try.ntmps71
 go_wp2_with (first
  | (go_at_call 26; refine (new_is 9 w w.heap.size (Nat.le_refl _) (by decide) (by decide)).mono ?_; rintro e w1 ⟨rfl, hd, hb⟩; have HD := Lib.hid hd; have HB := Lib.hid hb; clear hd hb)
  | (go_at_call 72; refine (jopen_is HD.out rfl log_nil).mono ?_; rintro e w2 ⟨J, vE, vL, v', rfl, hJ, hj, he, hl, hd, hs⟩; have HB2 := Lib.hid (HB.out.trans (hs.below HD.out)); obtain ⟨AL, cL, rfl, _, _⟩ := ER.C hl; clear hj he hl hd hs))
 go_ret
 exact ⟨rfl, HB2.out⟩
theorem JS.made {w w' : World} {base J B : Nat} {vE v' : Value} {es b : List Int} {s m : Int} (hb : base ≤ w.heap.size) (hJ : w.heap.size ≤ J) (hj : JAt w' J B vE) (he : IR w' w.heap.size vE es) (hd : DiskS w' base B v' b s m) : JS w' base J B vE v' es b s m :=
 ⟨hj, IR.len he, fun k hk => ⟨by have := R_ge he k hk; omega, R_typ he k hk⟩, hd, by omega⟩
end Go.Proofs.Ytmbnjgnmblgjoaa.Man
end
section
namespace Go.Proofs.Ytmbnjgnmblgjoaa.Man
open Go.RowKit Go.Shelf Go.Proofs.YtmbnjgnmblgjoaaW.PrintWords Go.Proofs.YtmbnjgnmblgjoaaW.PrintLast Go.Proofs.YtmbnjgnmblgjoaaW.PrintMore
set_option linter.unusedVariables false
set_option linter.unusedSimpArgs false
set_option maxRecDepth 100000
def sureN (es : List Int) (s : Int) : Nat → Nat
 | 0 => 0
 | n + 1 => if s < es.getD n 0 then sureN es s n else n + 1
theorem sure_same {w : World} {base B : Nat} {v : Value} {xs : List Int} {s m : Int} (h : DiskS w base B v xs s m) : Calls Try.prog 40 #[.pointer (some ⟨B, 0, none⟩)] w fun e w' => e = .returned (.int .i64 s) ∧ w' = w := (sure_is h).mono fun _ _ h => ⟨h.1, h.2.symm⟩
section
variable {w w1 w2 : World} {base J D J' D' : Nat} {vE v vE' v' uE u : Value} {es es' b b' : List Int} {s m s' m' : Int}
set_option maxHeartbeats 8000000 in
theorem jsure_is (h : JS w base J D vE v es b s m) : Calls Try.prog 79 #[.pointer (some ⟨J, 0, none⟩)] w fun e w' => e = .returned (.int .i64 (sureN es s es.length : Int)) ∧ ∃ n, w' = w.drewN n := by
 have HS := Lib.hid (fun (W : World) (hb : Below w.heap.size w W) => sure_same (h.disk.below hb (Nat.le_refl _)))
 have c0 := h.jat.c0
 have c1 := h.jat.c1
 obtain ⟨A, c, rfl, hc, hC⟩ := h.row
 have hl : es.length ≤ 9223372036854775807 := hC.2.1
 have H := Lib.hid h
 have HC := Lib.hid hC
 clear h hC
 obtain ⟨R, hR⟩ : ∃ R, sureN es s es.length = R := ⟨_, rfl⟩
 rw [hR]
 have HR := Lib.hid hR
 clear hR
 go_enter Try.func79, Try.ntmps79
 go_wp2_with (go_at_call 137; refine (jnone_is H.out).mono ?_; rintro e w' ⟨rfl, rfl⟩)
 go_loopg [3] es.length (fun g s3 wr => ∃ k n : Nat, s3 = .int .i64 k ∧ k ≤ es.length ∧ g = k ∧ wr = w.drewN n ∧ Hid (sureN es s k = R))
 case atStart => exact ⟨es.length, 0, rfl, Nat.le_refl _, rfl, rfl, HR⟩
 case round =>
  clear HR
  obtain ⟨k, n, rfl, hk, hg, rfl, HR⟩ := hrel
  rcases k with _ | k
  · have hz : R = 0 := HR.out.symm
    subst hz
    go_wp2
    go_quiet (fail)
    go_wp2
    go_ret
    exact ⟨rfl, _, World.drewN_drewN _ _ _⟩
  · obtain ⟨ad, e1, hcell⟩ := Kd.at_int HC.out (k : Int) (by omega) (by omega)
    subst e1
    have hrd : rd es (k : Int) = es.getD k 0 := rfl
    rw [hrd, Int.toNat_natCast] at hcell
    have hR := HR.out
    unfold sureN at hR
    clear hrd HR
    generalize es.getD k 0 = y at hR hcell
    have hw1 : IntKind.i64.wrap (k : Int) = (k : Int) := IntWalk.i64_in _ (by omega)
    have hw2 : (k : Int) < (es.length : Int) := by omega
    have hw3 : (0 : Int) ≤ (k : Int) := by omega
    have hw4 : wrap64 (k : Int) = (k : Int) := by unfold wrap64; omega
    have HG := Lib.hid (fun (q : Nat) => HS.out ((w.drewN n).drewN q) (pw_below_drewN (pw_below_drewN (Below.refl _ _) n) q))
    have d0 : (w.drewN n).cell? ⟨J, 0, none⟩ = some (.pointer (some ⟨D, 0, none⟩)) := by simpa using c0
    have d1 : (w.drewN n).cell? ⟨J, 1, none⟩ = some (.slice (some ad) es.length c) := by simpa using c1
    have d2 : (w.drewN n).cell? (ad.add k) = some (.int .i64 y) := by simpa using hcell
    obtain ⟨W, hW⟩ : ∃ W, w.drewN n = W := ⟨_, rfl⟩
    have HW := Lib.hid hW
    rw [hW] at HG d0 d1 d2 ⊢
    clear hW
    by_cases hy : s < y
    · rw [if_pos hy] at hR
      have HR := Lib.hid hR
      have t1 : decide (y > s) = true := by simpa using hy
      have t2 : decide (s < y) = true := by simpa using hy
      clear hR hy
      go_wp2
      go_quiet ((go_at_call 40; exact Calls.quiet_of_same (HG.out _)))
      go_wp2
      go_roundg k
      case measure => omega
      case rel => exact ⟨k, _, by go_num, by omega, rfl, by rw [← HW.out, World.drewN_drewN], HR⟩
    · rw [if_neg hy] at hR
      subst hR
      have t1 : decide (y > s) = false := by simpa using hy
      have t2 : decide (s < y) = false := by simpa using hy
      clear hy
      go_wp2
      go_quiet ((go_at_call 40; exact Calls.quiet_of_same (HG.out _)))
      go_wp2
      go_ret
      exact ⟨rfl, _, by rw [← HW.out, World.drewN_drewN]⟩
theorem jcrash_bad (h : JS w base J D vE v es b s m) (k : Int) (hk : k < 0) : Calls Try.prog 78 #[.pointer (some ⟨J, 0, none⟩), .int .i64 k] w fun e w' => e = .returned (.tuple #[.pointer none, .slice none 0 0, .int .i64 1]) ∧ w = w' := by
 have c0 := h.jat.c0
 have H := Lib.hid h
 clear h
 go_enter Try.func78, Try.ntmps78
 go_wp2_with (first
  | (go_at_call 137; refine (jnone_is H.out).mono ?_; rintro e w' ⟨rfl, rfl⟩)
  | (go_at_call 33; refine (crash_bad H.out.disk k hk).mono ?_; rintro e w' ⟨rfl, rfl⟩))
 go_ret3
 exact ⟨rfl, rfl⟩
set_option maxHeartbeats 4000000 in
theorem jcrash_is (h : JS w base J D vE v es b s m) (k : Int) (hk0 : 0 ≤ k) (hk1 : k ≤ 9223372036854775807) (hB : areBytesN b = true) {xs : List K.S26} {r : List Int} (hL : LogOf (crL b s k) xs r) :
 Calls Try.prog 78 #[.pointer (some ⟨J, 0, none⟩), .int .i64 k] w fun e w' => ∃ J' vE' vL' v', e = .returned (.tuple #[.pointer (some ⟨J', 0, none⟩), vL', .int .i64 0]) ∧ w.heap.size ≤ J' ∧ JS w' base J' D vE' v' (endsE 0 xs) (flatE xs) ((flatE xs).length : Int) m ∧ ER w' w.heap.size vL' xs ∧ DStep w w' D v v' := by
 have c0 := h.jat.c0
 have hjb := h.lt
 have hjg := h.jge
 have hE : crE k = 0 := by unfold crE; rw [if_neg (by omega)]
 have hB2 : areBytesN (crL b s k) = true := by unfold crL; rw [if_neg (by omega)]; exact bytes_take hB _
 have hC := crash_any h.disk k hk1
 rw [hE] at hC
 have HC := Lib.hid hC
 have HL := Lib.hid hL
 have HB := Lib.hid hB2
 have H := Lib.hid h
 obtain ⟨bb, hbb⟩ : ∃ bb, crL b s k = bb := ⟨_, rfl⟩
 rw [hbb] at HC HL HB
 clear h hE hC hL hB2 hbb
 go_enter Try.func78, Try.ntmps78
 go_wp2_with (first
  | (go_at_call 137; refine (jnone_is H.out).mono ?_; rintro e w' ⟨rfl, rfl⟩)
  | (go_at_call 33; refine HC.out.mono ?_; rintro e w1 ⟨rfl, v1, hd, hs⟩; have c1 := (H.out.acted hs hd).jat.c0; have HD1 := Lib.hid hd; have HS1 := Lib.hid hs; clear hd hs)
  | (go_at_call 72; refine (jopen_is HD1.out HB.out HL.out).mono ?_; rintro e w2 ⟨J2, vE2, vL2, v2, rfl, hJ, hj, he, hll, hd, hs⟩; obtain ⟨AL, cL, rfl, _, _⟩ := ER.C hll; have HJ2 := Lib.hid (JS.made (base := base) (by have := HS1.out.size; omega) hJ hj he hd); have HX2 := Lib.hid (Kd.R_lower hll HS1.out.size); have HST := Lib.hid (HS1.out.then_ hs); have HJZ : Hid (w.heap.size ≤ J2) := Lib.hid (Nat.le_trans HS1.out.size hJ); clear hj he hll hd hs hJ))
 go_ret3
 exact ⟨J2, _, _, v2, rfl, HJZ.out, HJ2.out, HX2.out, HST.out⟩
end
end Go.Proofs.Ytmbnjgnmblgjoaa.Man
end
section
namespace Go.Proofs.Ytmbnjgnmblgjoaa.P
open Go.RowKit Go.Proofs.YtmbnjgnmblgjoaaW.PrintWords Go.Proofs.YtmbnjgnmblgjoaaW.PrintLast Go.Proofs.YtmbnjgnmblgjoaaW.PrintMore
attribute [local go_sem] max2_int min2_int max_two min_two max_three min_three max_four min_four
set_option linter.unusedVariables false
set_option linter.unusedSimpArgs false
def errW : Option Int → Value
 | none => .nilIface
 | some c => .iface 0 (.int .i64 c)
theorem errW_none : errW none = .nilIface := rfl
theorem errW_some (c : Int) : errW (some c) = .iface 0 (.int .i64 c) := rfl
theorem info5 : (Try.prog.info? 5).map (fun i => (i.zero, i.size, i.bytes)) = some (some (.int .u8 0), 1, 1) := by kernel_rfl
end Go.Proofs.Ytmbnjgnmblgjoaa.P
end
section
namespace Go.Proofs.Ytmbnjgnmblgjoaa.P
open Go.RowKit Go.Proofs.YtmbnjgnmblgjoaaW.PrintWords Go.Proofs.YtmbnjgnmblgjoaaW.PrintLast Go.Proofs.YtmbnjgnmblgjoaaW.PrintMore
attribute [local go_sem] max2_int min2_int max_two min_two max_three min_three max_four min_four
set_option linter.unusedVariables false
set_option linter.unusedSimpArgs false
def emenderref02_More.l0 : Nat → List Int → Int → Int → Int → Option (Int)
 | 0, _, _, _, _ => none
 | k + 1, x1, x5, x6, x7 => if x7 < (x1.length : Int) then (if 0 ≤ x7 then (emenderref02_More.l0 k x1 (((x5 + ((rd x1 x7) % 4294967296)) % 4294967296) % 65521) (((x6 + (((x5 + ((rd x1 x7) % 4294967296)) % 4294967296) % 65521)) % 4294967296) % 65521) (wrap64 (x7 + 1))) else (none)) else (some ((((x6 * 65536) % 4294967296) + x5) % 4294967296))
def emenderref02_More.f (k : Nat) (a0 : Int) (l1 : List Int) : Option (Int) := emenderref02_More.l0 k l1 (Int.tmod (Int.tmod a0 65536) 65521) (((Int.tdiv a0 65536) % 4294967296) % 65521) 0
def emenderref02_Of.f (k : Nat) (l0 : List Int) : Option (Int) := (emenderref02_More.f k 1 l0).bind fun t102 => (some t102)
mutual
def emenderref01_Get.j0 : Nat → List Int → Int → Bool → Option (Int × Int × Int)
 | 0, _, _, _ => none
 | k + 1, x0, x1, x17 => if x17 = true then (some (0, 0, 1)) else (emenderref01_Get.l0 k x0 x1 0 0)
def emenderref01_Get.l0 : Nat → List Int → Int → Int → Int → Option (Int × Int × Int)
 | 0, _, _, _, _ => none
 | k + 1, x0, x1, x7, x8 => if x8 < 10 then (if (wrap64 (x1 + x8)) ≥ (x0.length : Int) then (some (0, (x0.length : Int), 3)) else (if 0 ≤ (wrap64 (x1 + x8)) then (if (wrap64 (x1 + x8)) < (x0.length : Int) then (if (rd x0 (wrap64 (x1 + x8))) = 0 then (if x8 > 0 then (emenderref01_Get.j2 k x0 x1 x7 x8 (rd x0 (wrap64 (x1 + x8))) true) else (if x8 = 9 then (emenderref01_Get.j2 k x0 x1 x7 x8 (rd x0 (wrap64 (x1 + x8))) (decide ((rd x0 (wrap64 (x1 + x8))) > 1))) else (emenderref01_Get.j2 k x0 x1 x7 x8 (rd x0 (wrap64 (x1 + x8))) false))) else (if x8 = 9 then (emenderref01_Get.j2 k x0 x1 x7 x8 (rd x0 (wrap64 (x1 + x8))) (decide ((rd x0 (wrap64 (x1 + x8))) > 1))) else (emenderref01_Get.j2 k x0 x1 x7 x8 (rd x0 (wrap64 (x1 + x8))) false))) else (none)) else (none))) else (some (0, 0, 4))
def emenderref01_Get.j2 : Nat → List Int → Int → Int → Int → Int → Bool → Option (Int × Int × Int)
 | 0, _, _, _, _, _, _ => none
 | k + 1, x0, x1, x7, x8, x9, x49 => if x49 = true then (some (0, wrap64 (x1 + x8), 4)) else (if 0 ≤ (wrap64 (7 * x8)) then (if x9 < 128 then (some (Go.bits .or .u64 x7 (shl .u64 (IntKind.u64.wrap (Go.bits .and .u8 x9 127)) (wrap64 (7 * x8))), wrap64 ((wrap64 (x1 + x8)) + 1), 0)) else (emenderref01_Get.l0 k x0 x1 (Go.bits .or .u64 x7 (shl .u64 (IntKind.u64.wrap (Go.bits .and .u8 x9 127)) (wrap64 (7 * x8)))) (wrap64 (x8 + 1)))) else (none))
end
def emenderref01_Get.f (k : Nat) (l0 : List Int) (a1 : Int) : Option (Int × Int × Int) := if a1 < 0 then (emenderref01_Get.j0 k l0 a1 true) else (emenderref01_Get.j0 k l0 a1 (decide (a1 > (l0.length : Int))))
def emenderref16_Open.j0 : Nat → List Int → Int → Bool → Option (List Int × Int × Int)
 | 0, _, _, _ => none
 | k + 1, x0, x1, x20 => if x20 = true then (some (([] : List Int), x1, 1)) else ((emenderref01_Get.f k x0 x1).bind fun bt104 => (if bt104.2.2 = 0 then (if bt104.1 > 65536 then (some (([] : List Int), x1, 4)) else (if (wrap64 ((x0.length : Int) - 4)) < (wrap64 (bt104.2.1 + (wrap64 (bt104.1)))) then (some (([] : List Int), x1, 3)) else (if 0 ≤ (wrap64 (bt104.2.1 + (wrap64 (bt104.1)))) then (if (wrap64 (bt104.2.1 + (wrap64 (bt104.1)))) < (x0.length : Int) then (if 0 ≤ (wrap64 ((wrap64 (bt104.2.1 + (wrap64 (bt104.1)))) + 1)) then (if (wrap64 ((wrap64 (bt104.2.1 + (wrap64 (bt104.1)))) + 1)) < (x0.length : Int) then (if 0 ≤ (wrap64 ((wrap64 (bt104.2.1 + (wrap64 (bt104.1)))) + 2)) then (if (wrap64 ((wrap64 (bt104.2.1 + (wrap64 (bt104.1)))) + 2)) < (x0.length : Int) then (if 0 ≤ (wrap64 ((wrap64 (bt104.2.1 + (wrap64 (bt104.1)))) + 3)) then (if (wrap64 ((wrap64 (bt104.2.1 + (wrap64 (bt104.1)))) + 3)) < (x0.length : Int) then ((some (([] : List Int) : List Int)).bind fun y111 => (if 0 ≤ bt104.2.1 then (if bt104.2.1 ≤ (wrap64 (bt104.2.1 + (wrap64 (bt104.1)))) then (if (wrap64 (bt104.2.1 + (wrap64 (bt104.1)))) ≤ (x0.length : Int) then (if y111.length + ((x0.take ((wrap64 (bt104.2.1 + (wrap64 (bt104.1)))) : Int).toNat).drop (bt104.2.1 : Int).toNat).length < 140737488355328 then ((some (y111 ++ ((x0.take ((wrap64 (bt104.2.1 + (wrap64 (bt104.1)))) : Int).toNat).drop (bt104.2.1 : Int).toNat) : List Int)).bind fun y115 => ((emenderref02_Of.f k y115).bind fun t118 => (if (Go.bits .or .u32 (Go.bits .or .u32 (Go.bits .or .u32 ((((rd x0 (wrap64 (bt104.2.1 + (wrap64 (bt104.1))))) % 4294967296) * 16777216) % 4294967296) ((((rd x0 (wrap64 ((wrap64 (bt104.2.1 + (wrap64 (bt104.1)))) + 1))) % 4294967296) * 65536) % 4294967296)) ((((rd x0 (wrap64 ((wrap64 (bt104.2.1 + (wrap64 (bt104.1)))) + 2))) % 4294967296) * 256) % 4294967296)) ((rd x0 (wrap64 ((wrap64 (bt104.2.1 + (wrap64 (bt104.1)))) + 3))) % 4294967296)) = t118 then (some (y115, wrap64 ((wrap64 (bt104.2.1 + (wrap64 (bt104.1)))) + 4), 0)) else (some (([] : List Int), x1, 10))))) else (none)) else (none)) else (none)) else (none))) else (none)) else (none)) else (none)) else (none)) else (none)) else (none)) else (none)) else (none)))) else (some (([] : List Int), x1, bt104.2.2))))
def emenderref16_Open.f (k : Nat) (l0 : List Int) (a1 : Int) : Option (List Int × Int × Int) := if a1 < 0 then (emenderref16_Open.j0 k l0 a1 true) else (emenderref16_Open.j0 k l0 a1 (decide (a1 > (l0.length : Int))))
def emenderref01_one.l0 : Nat → List Int → Int → Option (List Int)
 | 0, _, _ => none
 | k + 1, x0, x1 => if x1 ≥ 128 then (if x0.length < 140737488355328 then (emenderref01_one.l0 k (x0 ++ [(Go.bits .or .u64 (Go.bits .and .u64 x1 127) 128) % 256]) (x1 / 128)) else (none)) else (if x0.length < 140737488355328 then (some (x0 ++ [(x1) % 256])) else (none))
def emenderref01_one.f (k : Nat) (l0 : List Int) (a1 : Int) : Option (List Int) := emenderref01_one.l0 k l0 a1
end Go.Proofs.Ytmbnjgnmblgjoaa.P
end
section
namespace Go.Proofs.Ytmbnjgnmblgjoaa.Man
open Go.RowKit Go.Proofs.YtmbnjgnmblgjoaaW.PrintWords Go.Proofs.YtmbnjgnmblgjoaaW.PrintLast Go.Proofs.YtmbnjgnmblgjoaaW.PrintMore
set_option linter.unusedVariables false
set_option linter.unusedSimpArgs false
theorem ref_run (l : List Int) (hB : areBytesN l = true) (hl : l.length ≤ 140737488351232) (d : Nat) : ∀ (k i : Nat) (x y : Int), i ≤ l.length → l.length - i = d → d < k → 0 ≤ x → x < 65521 → 0 ≤ y → y < 65521 →
 P.emenderref02_More.l0 k l x y (i : Int) = some (joinP (U (l.drop i) x y).1 (U (l.drop i) x y).2) := by
 induction d with
 | zero =>
  intro k i x y h1 h2 h3 hx0 hx1 hy0 hy1
  obtain ⟨k, rfl⟩ : ∃ m, k = m + 1 := ⟨k - 1, by omega⟩
  obtain rfl : i = l.length := by omega
  rw [P.emenderref02_More.l0, if_neg (by omega), List.drop_length]
  simp only [U, joinP]
  congr 1; omega
 | succ d ih =>
  intro k i x y h1 h2 h3 hx0 hx1 hy0 hy1
  obtain ⟨k, rfl⟩ : ∃ m, k = m + 1 := ⟨k - 1, by omega⟩
  have hlt : i < l.length := by omega
  obtain ⟨c0, c1⟩ := areBytes_get hB hlt
  have hr : rd l (i : Int) = l.getD i 0 := by simp [rd]
  rw [P.emenderref02_More.l0, if_pos (by omega), if_pos (by omega), hr]
  have hw : wrap64 ((i : Int) + 1) = ((i + 1 : Nat) : Int) := by unfold wrap64; omega
  rw [hw, ih k (i + 1) _ _ (by omega) (by omega) (by omega) (by omega) (by omega) (by omega) (by omega), List.drop_eq_getElem_cons hlt, U, getD_lt hlt]
  rw [getD_lt hlt] at c0 c1
  have e1 : Eqp (((x + l[i] % 4294967296) % 4294967296) % 65521) (x + l[i]) := by unfold Eqp; omega
  have e2 : Eqp (((y + ((x + l[i] % 4294967296) % 4294967296) % 65521) % 4294967296) % 65521) (y + (x + l[i])) := by unfold Eqp; omega
  have := U_eqp (l.drop (i + 1)) _ _ _ _ e1 e2
  exact congrArg some (joinP_eqp this.1 this.2)
theorem ref_more (k : Nat) (s : Int) (l : List Int) (hB : areBytesN l = true) (hl : l.length ≤ 140737488351232) (hk : l.length < k) (h0 : 0 ≤ s) (h1 : s < 4294967296) : P.emenderref02_More.f k s l = some (moreF s l) := by
 unfold P.emenderref02_More.f
 have eA : Int.tmod (Int.tmod s 65536) 65521 = partA s := by
  unfold partA; rw [Int.tmod_eq_emod_of_nonneg h0, Int.tmod_eq_emod_of_nonneg (by omega)]
 have eB : ((Int.tdiv s 65536) % 4294967296) % 65521 = partB s := by
  unfold partB; rw [Int.tdiv_eq_ediv_of_nonneg h0]; omega
 rw [eA, eB]
 have := ref_run l hB hl l.length k 0 (partA s) (partB s) (by omega) (by omega) hk (by unfold partA; omega) (by unfold partA; omega) (by unfold partB; omega) (by unfold partB; omega)
 rw [List.drop_zero] at this
 rw [moreF_eq]; exact this
attribute [local go_sem] max2_int min2_int max_two min_two max_three min_three max_four min_four
set_option maxHeartbeats 8000000 in
set_option maxRecDepth 100000 in
theorem rmore_free (k : Nat) (a0 : Int) (A1 : Option Addr) (c1 : Nat) (l1 : List Int) (r : Int) (w : World) (hr1 : Kd.C (Kd.int .u8) w A1 l1.length l1) (h : P.emenderref02_More.f k a0 l1 = some r) :
 Calls Try.prog 166 #[.int .u32 a0, .slice A1 l1.length c1] w fun e w' => e = .returned (.int .u32 r) ∧ Drawn0 w w' := by
 have HR1 := Aside0.mk hr1
 clear hr1
 have H : (P.emenderref02_More.l0 k l1 (Int.tmod (Int.tmod a0 65536) 65521) (((Int.tdiv a0 65536) % 4294967296) % 65521) 0) = some r := h
 clear h
 have H' := Aside0.mk H
 clear H
 go_enter Try.func166, Try.ntmps166
 go_wp2
 go_loopg [5, 6, 7] k (fun kq v5 v6 v7 w' => ∃ (x5_1 : Int) (x6_1 : Int) (x7_1 : Int), v5 = .int .u32 x5_1 ∧ v6 = .int .u32 x6_1 ∧ v7 = .int .i64 x7_1 ∧ Aside0 (P.emenderref02_More.l0 kq l1 x5_1 x6_1 x7_1 = some r) ∧ Aside0 (kq ≤ k) ∧ Drawn0 w w')
 case atStart => exact ⟨(Int.tmod (Int.tmod a0 65536) 65521), (((Int.tdiv a0 65536) % 4294967296) % 65521), (0), (by first | rfl | (simp; done) | (simp [*]; done)), (by first | rfl | (simp; done) | (simp [*]; done)), (by first | rfl | (simp; done) | (simp [*]; done)), H', ⟨Nat.le_refl _⟩, by repeat (first | exact Drawn0.refl _ | apply Drawn0.step)⟩
 case round =>
  clear H'
  try clear c1
  try clear p2
  obtain ⟨x5_1, x6_1, x7_1, rfl, rfl, rfl, HA, HK1, ⟨m1, rfl⟩⟩ := hrel
  cases gk with
  | zero => exact absurd HA.out (by simp [P.emenderref02_More.l0])
  | succ k1 =>
   have H := HA.out
   clear HA
   simp only [P.emenderref02_More.l0] at H
   by_cases c3 : x7_1 < (l1.length : Int)
   · rw [if_pos c3] at H
     have c3b0 : decide (x7_1 < (l1.length : Int)) = true := decide_eq_true c3
     clear c3
     by_cases c4 : 0 ≤ x7_1
     · rw [if_pos c4] at H
       have c4b0 : decide (0 ≤ x7_1) = true := decide_eq_true c4
       clear c4
       have H' := Aside0.mk H
       clear H
       have p101 : 0 ≤ (x7_1 : Int) := of_decide_eq_true (by first | (with_reducible assumption) | assumption)
       have q101 : x7_1 < (l1.length : Int) := of_decide_eq_true (by first | (with_reducible assumption) | assumption)
       obtain ⟨ad101, e101, hx101_0⟩ := Kd.at_int HR1.out x7_1 p101 q101
       cases e101
       replace p101 := eq_true p101
       replace q101 := eq_true q101
       go_wp2
       go_roundg k1
       case measure => have := HK1.out; omega
       case rel => exact ⟨(((x5_1 + ((rd l1 x7_1) % 4294967296)) % 4294967296) % 65521), (((x6_1 + (((x5_1 + ((rd l1 x7_1) % 4294967296)) % 4294967296) % 65521)) % 4294967296) % 65521), (wrap64 (x7_1 + 1)), (by first | rfl | (simp; done) | (simp [*]; done)), (by first | rfl | (simp; done) | (simp [*]; done)), (by first | rfl | (simp; done) | (simp [*]; done)), H', ⟨by have := HK1.out; omega⟩, by repeat (first | exact Drawn0.refl _ | apply Drawn0.step)⟩
     · rw [if_neg c4] at H
       exact absurd H (by simp)
   · rw [if_neg c3] at H
     have c3b0 : decide (x7_1 < (l1.length : Int)) = false := decide_eq_false c3
     clear c3
     obtain rfl := Option.some.inj H
     go_wp2
     go_ret
     exact ⟨by first | rfl | (simp; done) | (simp [*]; done), by repeat (first | exact Drawn0.refl _ | apply Drawn0.step)⟩
theorem rof_is (A : Option Addr) (c : Nat) (l : List Int) (w : World) (hr : Kd.C (Kd.int .u8) w A l.length l) (hB : areBytesN l = true) (hl : l.length ≤ 140737488351232) :
 Calls Try.prog 154 #[.slice A l.length c] w fun e w' => e = .returned (.int .u32 (sumF l)) ∧ Drawn0 w w' := by
 have h : P.emenderref02_More.f (l.length + 1) 1 l = some (sumF l) := ref_more (l.length + 1) 1 l hB hl (Nat.lt_succ_self _) (by omega) (by omega)
 have H := Lib.hid (rmore_free (l.length + 1) 1 A c l (sumF l) w hr h)
 clear h hr
 go_enter Try.func154, Try.ntmps154
 go_wp2_with (go_at_call 166; refine H.out.mono ?_; rintro e w1 ⟨rfl, hd⟩; have HD := Lib.hid hd; clear hd)
 go_ret
 exact ⟨rfl, HD.out⟩
end Go.Proofs.Ytmbnjgnmblgjoaa.Man
end
section
namespace Go.Proofs.Ytmbnjgnmblgjoaa.Man
open Go.RowKit Go.Proofs.YtmbnjgnmblgjoaaW.PrintWords Go.Proofs.YtmbnjgnmblgjoaaW.PrintLast Go.Proofs.YtmbnjgnmblgjoaaW.PrintMore
set_option linter.unusedVariables false
set_option linter.unusedSimpArgs false
set_option maxRecDepth 100000
theorem and127u (n : Nat) (hn : n < 18446744073709551616) : Go.bits .and .u64 (n : Int) 127 = ((n % 128 : Nat) : Int) := by
 have := bits_mask .u64 64 (by decide) (fun x h0 h1 => by
  have h1' : x < 18446744073709551616 := h1
  rw [IntKind.wrap_u64]; omega) 7 (by decide) (n : Int) (by omega) (show (n : Int) < 18446744073709551616 by omega)
 exact this.trans (by omega)
theorem or128u (m : Nat) (hm : m < 128) : Go.bits .or .u64 (m : Int) 128 = ((m + 128 : Nat) : Int) := by
 have := or_shl m 1 1 (by decide) (by omega) (by decide)
 simpa using this
theorem br_empty (W : World) (base : Nat) (hb : base ≤ W.heap.size) : BR (W.alloc (.cells #[] 5)) base (.slice (some ⟨W.heap.size, 0, none⟩) 0 0) [] :=
 Kd.R_of_own (by have := own_lit W base 5 .u8 [] hb (by simp); simpa [nums, encs] using this) (fun _ _ => trivial)
set_option maxHeartbeats 4000000 in
theorem one_is {w : World} {base : Nat} {v : Value} {xs : List Int} (hR : BR w base v xs) (hbase : base ≤ w.heap.size) (n : Nat) (hn : n < 18446744073709551616) (hroom : (xs ++ vb n).length ≤ 140737488355328) :
 Calls Try.prog 155 #[v, .int .u64 (n : Int)] w fun e w' => ∃ v', e = .returned v' ∧ BR w' base v' (xs ++ vb n) ∧ Below base w w' := by
 obtain ⟨A, c, rfl, _, _⟩ := BR.len hR
 have HR := Lib.hid hR
 have HRM := Lib.hid hroom
 obtain ⟨zs, hzs⟩ : ∃ zs, xs ++ vb n = zs := ⟨_, rfl⟩
 rw [hzs] at HRM ⊢
 have HZ := Lib.hid hzs
 clear hR hroom hzs
 go_enter Try.func155, Try.ntmps155
 go_wp2
 go_loopg [0, 1] n (fun g s0 s1 wr => ∃ (m : Nat) (ys : List Int), s1 = .int .u64 (m : Int) ∧ g = m ∧ m < 18446744073709551616 ∧ Hid (ys ++ vb m = zs) ∧ Hid (BR wr base s0 ys) ∧ Hid (Below base w wr))
 case atStart => exact ⟨n, xs, rfl, rfl, hn, HZ, HR, Lib.hid (Below.refl _ _)⟩
 case round =>
  clear HZ HR
  obtain ⟨m, ys, rfl, hg, hm, HZ, HR, HB⟩ := hrel
  obtain ⟨A1, c1, rfl, _, _⟩ := BR.len HR.out
  have hbw : base ≤ wr.heap.size := Nat.le_trans hbase HB.out.size
  by_cases hs : m < 128
  · have ht : decide (128 ≤ (m : Int)) = false := by rw [decide_eq_false_iff_not]; omega
    have hl : ys.length + 1 ≤ 140737488355328 := by have h1 := HRM.out; rw [← HZ.out, vb_small hs, List.length_append] at h1; simpa using h1
    have hz : ys ++ [(m : Int)] = zs := by rw [← HZ.out, vb_small hs]
    have HZZ := Lib.hid hz
    clear hz
    go_wp2_with (at_builtin; refine BR.push_ev (w := wr) (y := (m : Int)) HR.out rfl (.tmp 16) (.tmp 19) rfl rfl rfl hbw hl ?_; intro v5 w5 hr5 hb5 hat; rw [HZZ.out] at hr5; have HR5 := Lib.hid hr5; have HB5 := Lib.hid (HB.out.trans hb5); clear hr5 hb5 hat)
    go_ret
    exact ⟨v5, rfl, HR5.out, HB5.out⟩
  · have ht : decide (128 ≤ (m : Int)) = true := by rw [decide_eq_true_eq]; omega
    have ho : Go.bits .or .u64 (Go.bits .and .u64 (m : Int) 127) 128 = ((m % 128 + 128 : Nat) : Int) := by rw [and127u m hm, or128u _ (by omega)]
    obtain ⟨y, hy⟩ : ∃ y, ((m % 128 + 128 : Nat) : Int) = y := ⟨_, rfl⟩
    have hz : (ys ++ [y]) ++ vb (m / 128) = zs := by rw [← HZ.out, vb_great hs, ← hy, List.append_assoc]; rfl
    have hl : ys.length + 1 ≤ 140737488355328 := by have h1 := HRM.out; rw [← hz, List.length_append, List.length_append] at h1; simp only [List.length_cons, List.length_nil] at h1; omega
    rw [hy] at ho
    have hy0 : 0 ≤ y := by omega
    have hy1 : y ≤ 255 := by omega
    have HZZ := Lib.hid hz
    have hq : ((m / 128 : Nat) : Int) = (m : Int) / 128 := by omega
    have HQ := Lib.hid hq
    have hmd : m / 128 < m := by omega
    clear hz hy hq
    go_wp2_with (at_builtin; refine BR.push_ev (w := wr) (y := y) HR.out rfl (.tmp 7) (.tmp 12) rfl rfl rfl hbw hl ?_; intro v5 w5 hr5 hb5 hat; have HR5 := Lib.hid hr5; have HB5 := Lib.hid (HB.out.trans hb5); clear hr5 hb5 hat)
    go_roundg (m / 128)
    case measure => omega
    case rel => exact ⟨m / 128, ys ++ [y], by rw [HQ.out], rfl, by omega, HZZ, HR5, HB5⟩
set_option maxHeartbeats 4000000 in
theorem rput_is (A0 A1 : Option Addr) (c0 c1 : Nat) (b l : List Int) (w : World) (hb : Kd.C (Kd.int .u8) w A0 b.length b) (hl : Kd.C (Kd.int .u64) w A1 l.length l) (hU : areU64 l = true) (hroom : (b ++ vbs l).length ≤ 140737488355328) :
 Calls Try.prog 120 #[.slice A0 b.length c0, .slice A1 l.length c1] w fun e w' => ∃ v, e = .returned v ∧ BR w' w.heap.size v (b ++ vbs l) ∧ Below w.heap.size w w' := by
 have hl1 : l.length ≤ 9223372036854775807 := hl.2.1
 have HC := Lib.hid hb
 have HL := Lib.hid hl
 have HU := Lib.hid hU
 have HRM := Lib.hid hroom
 have HE := Lib.hid (br_empty w w.heap.size (Nat.le_refl _))
 have HBE := Lib.hid ((Below.refl w.heap.size w).alloc (Nat.le_refl _) (.cells #[] 5))
 have hbl : b.length ≤ 140737488355328 := by have := hroom; rw [List.length_append] at this; omega
 clear hb hl hU hroom
 go_enter Try.func120, Try.ntmps120
 go_wp2_with (at_builtin; refine BR.append_ev (w := w.alloc (.cells #[] 5)) (base := w.heap.size) HE.out (Kd.C_below HC.out HBE.out) rfl (.tmp 7) (.tmp 8) rfl rfl rfl HBE.out.size (by simp only [List.length_nil]; omega) ?_; intro v2 w2 hr2 hb2 hat; rw [List.nil_append] at hr2; have HR2 := Lib.hid hr2; have HX2 := Lib.hid (HBE.out.trans hb2); clear hr2 hb2 hat)
 go_loopg [5, 6] l.length (fun g s5 s6 wr => ∃ i : Nat, s6 = .int .i64 i ∧ i ≤ l.length ∧ g = l.length - i ∧ Hid (BR wr w.heap.size s5 (b ++ vbs (l.take i))) ∧ Hid (Below w.heap.size w wr))
 case atStart => exact ⟨0, rfl, Nat.zero_le _, rfl, Lib.hid (by simpa [vbs] using HR2.out), HX2⟩
 case round =>
  clear HR2 HX2 HE HBE
  obtain ⟨i, rfl, hi, hg, HR, HB⟩ := hrel
  obtain ⟨ys, hys⟩ : ∃ ys, b ++ vbs (l.take i) = ys := ⟨_, rfl⟩
  rw [hys] at HR
  obtain ⟨A3, c3, rfl, _, _⟩ := BR.len HR.out
  by_cases hlt : i < l.length
  · have e1 := vbs_take_succ l i hlt
    have e2 := vbs_take_le l (i + 1)
    obtain ⟨ad, ea, hc⟩ := Kd.at_int (Kd.C_below HL.out HB.out) (i : Int) (by omega) (by omega)
    subst ea
    obtain ⟨hx0, hx1⟩ := areU64_get HU.out hlt
    have hrd : rd l (i : Int) = l.getD i 0 := rfl
    rw [hrd, Int.toNat_natCast] at hc
    clear hrd
    generalize l.getD i 0 = x at e1 hc hx0 hx1
    obtain ⟨n, rfl⟩ : ∃ n : Nat, x = (n : Int) := ⟨x.toNat, by omega⟩
    rw [Int.toNat_natCast] at e1
    have hz : ys ++ vb n = b ++ vbs (l.take (i + 1)) := by rw [e1, ← hys, List.append_assoc]
    have hroom : (ys ++ vb n).length ≤ 140737488355328 := by rw [hz]; have := HRM.out; rw [List.length_append] at this ⊢; omega
    have HO := Lib.hid (one_is HR.out HB.out.size n (by omega) hroom)
    have HZ := Lib.hid hz
    clear hz hroom e1 e2 hx0 hx1 hys
    go_wp2_with (go_at_call 155; refine HO.out.mono ?_; rintro e w4 ⟨v4, rfl, hr, hb⟩; have HR4 := Lib.hid hr; have HB4 := Lib.hid (HB.out.trans hb); clear hr hb)
    go_roundg (l.length - (i + 1))
    case measure => omega
    case rel => exact ⟨i + 1, by go_num, by omega, rfl, Lib.hid (by rw [← HZ.out]; exact HR4.out), HB4⟩
  · obtain rfl : i = l.length := by omega
    rw [List.take_length] at hys
    have HYS := Lib.hid hys
    clear hys
    go_wp2
    go_ret
    exact ⟨_, rfl, by rw [HYS.out]; exact HR.out, HB.out⟩
end Go.Proofs.Ytmbnjgnmblgjoaa.Man
end
section
namespace Go.Proofs.Ytmbnjgnmblgjoaa.Man
open Go.RowKit Go.Proofs.YtmbnjgnmblgjoaaW.PrintWords Go.Proofs.YtmbnjgnmblgjoaaW.PrintLast Go.Proofs.YtmbnjgnmblgjoaaW.PrintMore
set_option linter.unusedVariables false
set_option linter.unusedSimpArgs false
set_option maxRecDepth 100000
def BC (w : World) (v : Value) (xs : List Int) : Prop := ∃ A c, v = .slice A xs.length c ∧ Kd.C (Kd.int .u8) w A xs.length xs
theorem BC.of {w : World} {base : Nat} {v : Value} {xs : List Int} (h : BR w base v xs) : BC w v xs := by
 obtain ⟨A, c, rfl, _, hC⟩ := BR.len h
 exact ⟨A, c, rfl, hC⟩
theorem BC.below {w w1 : World} {v : Value} {xs : List Int} (h : BC w v xs) (hb : Below w.heap.size w w1) : BC w1 v xs := by
 obtain ⟨A, c, rfl, hC⟩ := h
 exact ⟨A, c, rfl, Kd.C_below hC hb⟩
theorem BC.nil (w : World) : BC w (.slice none 0 0) [] := ⟨none, 0, rfl, C_nil w .u8⟩
def NumsOk (l : List Int) : Prop := ∀ i, i < l.length → 0 ≤ l.getD i 0 ∧ l.getD i 0 < 9223372036854775808
set_option maxHeartbeats 4000000 in
theorem rnums_is {w : World} {v : Value} {b : List Int} (hv : BC w v b) (A1 : Option Addr) (c1 : Nat) (l : List Int) (hl : Kd.C (Kd.int .i64) w A1 l.length l) (hn : NumsOk l) (hl5 : l.length ≤ 5) (hb : b.length ≤ 130000000000000) :
 Calls Try.prog 112 #[v, .slice A1 l.length c1] w fun e w' => ∃ v', e = .returned v' ∧ BC w' v' (b ++ vbs l) ∧ Below w.heap.size w w' := by
 have hvl := vbs_le l hn
 have HV := Lib.hid hv
 have HL := Lib.hid hl
 have HN := Lib.hid hn
 clear hv hl hn
 go_enter Try.func112, Try.ntmps112
 go_wp2
 go_loopg [0, 5] l.length (fun g s0 s5 wr => ∃ i : Nat, s5 = .int .i64 i ∧ i ≤ l.length ∧ g = l.length - i ∧ Hid (BC wr s0 (b ++ vbs (l.take i))) ∧ Hid (Below w.heap.size w wr))
 case atStart => exact ⟨0, rfl, Nat.zero_le _, rfl, Lib.hid (by simpa [vbs] using HV.out), Lib.hid (Below.refl _ _)⟩
 case round =>
  clear HV
  obtain ⟨i, rfl, hi, hg, HR, HB⟩ := hrel
  obtain ⟨ys, hys⟩ : ∃ ys, b ++ vbs (l.take i) = ys := ⟨_, rfl⟩
  rw [hys] at HR
  obtain ⟨A3, c3, rfl, hC3⟩ := HR.out
  have HC3 := Lib.hid hC3
  clear HR hC3
  by_cases hlt : i < l.length
  · have e1 := vbs_take_succ l i hlt
    have e2 := vbs_take_le l (i + 1)
    obtain ⟨ad, ea, hc⟩ := Kd.at_int (Kd.C_below HL.out HB.out) (i : Int) (by omega) (by omega)
    subst ea
    obtain ⟨hx0, hx1⟩ := HN.out i hlt
    have hrd : rd l (i : Int) = l.getD i 0 := rfl
    rw [hrd, Int.toNat_natCast] at hc
    clear hrd
    generalize l.getD i 0 = x at e1 hc hx0 hx1
    obtain ⟨n, rfl⟩ : ∃ n : Nat, x = (n : Int) := ⟨x.toNat, by omega⟩
    rw [Int.toNat_natCast] at e1
    have hz : ys ++ vb n = b ++ vbs (l.take (i + 1)) := by rw [e1, ← hys, List.append_assoc]
    have hroom : (ys ++ vbs [(n : Int)]).length ≤ 140737488355328 := by rw [vbs_one, hz]; rw [List.length_append]; omega
    have hU : IntKind.u64.wrap (n : Int) = (n : Int) := by rw [IntKind.wrap_u64]; omega
    have hbe : Below wr.heap.size wr (wr.alloc (.cells #[.int .u64 (n : Int)] 90)) := (Below.refl _ _).alloc (Nat.le_refl _) _
    have HO := Lib.hid (rput_is A3 (some ⟨wr.heap.size, 0, none⟩) c3 1 ys [(n : Int)] _ (Kd.C_below HC3.out hbe) (C_box wr .u64 (n : Int) 90) (u64_one n (by omega)) hroom)
    have HBE := Lib.hid (HB.out.trans (hbe.mono HB.out.size))
    have HZ := Lib.hid hz
    clear hz hroom e1 e2 hx0 hx1 hys hbe
    go_wp2_with (go_at_call 120; refine HO.out.mono ?_; rintro e w4 ⟨v4, rfl, hr, hb⟩; rw [vbs_one, HZ.out] at hr; have HR4 := Lib.hid (BC.of hr); have HB4 := Lib.hid (HBE.out.trans (hb.mono HBE.out.size)); clear hr hb)
    go_roundg (l.length - (i + 1))
    case measure => omega
    case rel => exact ⟨i + 1, by go_num, by omega, rfl, HR4, HB4⟩
  · obtain rfl : i = l.length := by omega
    rw [List.take_length] at hys
    have HYS := Lib.hid hys
    clear hys
    go_wp2
    go_ret
    exact ⟨_, rfl, by rw [HYS.out]; exact ⟨A3, c3, rfl, HC3.out⟩, HB.out⟩
theorem rnumsL {w : World} {v : Value} {b : List Int} (hv : BC w v b) (l : List Int) (cs : Array Value) (hcs : cs.toList = l.map (Value.int .i64)) (hl : l.length ≤ 5) (hn : NumsOk l) (hb : b.length ≤ 130000000000000) :
 Calls Try.prog 112 #[v, .slice (some ⟨w.heap.size, 0, none⟩) l.length l.length] (w.alloc (.cells cs 3)) fun e w' => ∃ v', e = .returned v' ∧ BC w' v' (b ++ vbs l) ∧ Below w.heap.size w w' := by
 have hbe : Below w.heap.size w (w.alloc (.cells cs 3)) := (Below.refl _ _).alloc (Nat.le_refl _) _
 refine (rnums_is (hv.below hbe) (some ⟨w.heap.size, 0, none⟩) l.length l (C_lit w .i64 l cs 3 hcs (by omega)) hn hl hb).mono ?_
 rintro e w1 ⟨v', rfl, h, hb1⟩
 exact ⟨v', rfl, h, hbe.trans (hb1.mono hbe.size)⟩
theorem rnums1 {w : World} {v : Value} {b : List Int} (hv : BC w v b) (n : Nat) (hn : n < 9223372036854775808) (hb : b.length ≤ 130000000000000) :
 Calls Try.prog 112 #[v, .slice (some ⟨w.heap.size, 0, none⟩) 1 1] (w.alloc (.cells #[.int .i64 (n : Int)] 3)) fun e w' => ∃ v', e = .returned v' ∧ BC w' v' (b ++ vb n) ∧ Below w.heap.size w w' := by
 have h := rnumsL hv [(n : Int)] #[.int .i64 (n : Int)] rfl (by simp) (getD_lt1 _ ⟨by omega, by omega⟩) hb
 rw [vbs_one] at h
 exact h
set_option maxHeartbeats 8000000 in
theorem rdocw_is {w : World} {v : Value} {b : List Int} (hv : BC w v b) (A : Option Addr) (c : Nat) (l : List K.S111) (hC : Kd.C K.k111 w A l.length l) (hl : l.length ≤ 2048) (hok : ∀ x ∈ l, TokOk x) (hb : b.length ≤ 120000000000000) :
 Calls Try.prog 106 #[v, .slice A l.length c] w fun e w' => ∃ v', e = .returned v' ∧ BC w' v' (b ++ docB l) ∧ Below w.heap.size w w' := by
 have hok2 : ∀ i, i < l.length → TokOk (l.getD i K.z111) := fun i hi => hok _ (by rw [show l.getD i K.z111 = l[i] by simp [List.getD, hi]]; exact List.getElem_mem hi)
 have htl : ∀ i, ((l.take i).flatMap tokB).length ≤ 20 * 2048 := fun i => by
  have h1 := toks_le (l.take i) (fun x hx => hok x (List.mem_of_mem_take hx))
  have h2 : (l.take i).length ≤ l.length := by rw [List.length_take]; omega
  omega
 have hv10 := vb_le10 l.length (by omega)
 have HN0 := Lib.hid (rnums1 hv l.length (by omega) (by omega))
 obtain ⟨A0, c0, rfl, _⟩ := hv
 have HC := Lib.hid hC
 have HOK := Lib.hid hok2
 have HTL := Lib.hid htl
 have HV := Lib.hid hv10
 clear hC hok hok2 htl hv10
 unfold docB
 rw [← List.append_assoc]
 obtain ⟨b1, hb1⟩ : ∃ b1, b ++ vb l.length = b1 := ⟨_, rfl⟩
 have hbl : b1.length ≤ 120000000000010 := by rw [← hb1, List.length_append]; have := HV.out; omega
 rw [hb1] at HN0 ⊢
 clear hb1
 go_enter Try.func106, Try.ntmps106
 go_wp2_with (go_at_call 112; refine HN0.out.mono ?_; rintro e w1 ⟨v1, rfl, hr, hb⟩; have HR1 := Lib.hid hr; have HB1 := Lib.hid hb; clear hr hb)
 go_loopg [0, 5] l.length (fun g s0 s5 wr => ∃ i : Nat, s5 = .int .i64 i ∧ i ≤ l.length ∧ g = l.length - i ∧ Hid (BC wr s0 (b1 ++ (l.take i).flatMap tokB)) ∧ Hid (Below w.heap.size w wr))
 case atStart => exact ⟨0, rfl, Nat.zero_le _, rfl, Lib.hid (by simpa using HR1.out), HB1⟩
 case round =>
  clear HR1 HB1 HN0
  obtain ⟨i, rfl, hi, hg, HR, HB⟩ := hrel
  by_cases hlt : i < l.length
  · obtain ⟨ad, ea, a0, a1, a2, a3⟩ := K.at_T111 (Kd.C_below HC.out HB.out) (i : Int) (by omega) (by omega)
    subst ea
    have hx := HOK.out i hlt
    have hsn := docB_snoc l i hlt
    have hrd : K.rd_T111 l (i : Int) = l.getD i K.z111 := by unfold K.rd_T111; rw [Int.toNat_natCast]
    rw [hrd, Int.toNat_natCast] at a0 a1 a2 a3
    clear hrd
    generalize l.getD i K.z111 = x at hx hsn a0 a1 a2 a3
    obtain ⟨k, t, n, m⟩ := x
    obtain ⟨h0k, h1k, h2t, h3t, h4n, h5n, h6m, h7m⟩ := hx
    simp only at h0k h1k h2t h3t h4n h5n h6m h7m a0 a1 a2 a3
    have hU1 : IntKind.i64.wrap (4 * n) = 4 * n := by rw [IntKind.wrap_i64]; omega
    obtain ⟨N, hN⟩ : ∃ N : Nat, k + 4 * n = (N : Int) := ⟨(k + 4 * n).toNat, by omega⟩
    have hN1 : N < 9000000000 := by omega
    have hU2 : IntKind.i64.wrap (k + 4 * n) = (N : Int) := by rw [IntKind.wrap_i64]; omega
    have htb : tokB ⟨k, t, n, m⟩ = vb N ++ (if k = 0 then vb m.toNat else if k = 1 ∨ k = 3 then vb t.toNat else []) := by
     unfold tokB
     simp only
     rw [hN, Int.toNat_natCast]
    have htlen := HTL.out i
    obtain ⟨ys, hys⟩ : ∃ ys, b1 ++ (l.take i).flatMap tokB = ys := ⟨_, rfl⟩
    have hyl : ys.length ≤ 120000000100000 := by rw [← hys, List.length_append]; omega
    rw [hys] at HR
    have hye : b1 ++ (l.take (i + 1)).flatMap tokB = ys ++ tokB ⟨k, t, n, m⟩ := by rw [hsn, ← List.append_assoc, hys]
    rw [htb] at hye
    obtain ⟨zs, hzs⟩ : ∃ zs, ys ++ vb N = zs := ⟨_, rfl⟩
    rw [← List.append_assoc, hzs] at hye
    have HYZ := Lib.hid hye
    have hzl : zs.length ≤ 120000000200000 := by rw [← hzs, List.length_append]; have h1 := vb_le10 N (by omega); omega
    obtain ⟨wt, hwt⟩ : ∃ wt, wt = wr.alloc (.cells #[.int .i64 k, .int .i64 t, .int .i64 n, .int .i64 m] 111) := ⟨_, rfl⟩
    have hbt : Below wr.heap.size wr wt := by rw [hwt]; exact (Below.refl _ _).alloc (Nat.le_refl _) _
    have hkt : TokAt wt wr.heap.size ⟨k, t, n, m⟩ := by rw [hwt]; exact World.alloc_heap_new wr _
    have hwz : wt.heap.size = wr.heap.size + 1 := by rw [hwt]; exact World.size_alloc _ _
    have hnum := rnums1 (HR.out.below hbt) N (by omega) (by omega)
    obtain ⟨A3, c3, rfl, _⟩ := HR.out
    rw [hwz, hzs] at hnum
    have HKT := Lib.hid hkt
    have HBT := Lib.hid (HB.out.trans (hbt.mono HB.out.size))
    have HWZ : Hid (wr.heap.size + 1 = wt.heap.size) := Lib.hid hwz.symm
    have hnum2 := hnum
    rw [hwt] at hnum2
    have HNUM := Lib.hid hnum2
    have HL2 := Lib.hid hzl
    have HWT := Lib.hid hwt
    clear hnum hnum2 hwz hys htb hsn hye hN hwt hbt hkt htlen hN1 hyl HR hzs hzl
    have HM : Hid (0 ≤ t ∧ t < 2147483648 ∧ 0 ≤ m ∧ m < 2147483648) := Lib.hid ⟨h2t, h3t, h6m, h7m⟩
    clear h4n h5n h2t h3t h6m h7m
    go_upto_region 7 with (go_at_call 112; refine HNUM.out.mono ?_; rintro e w2 ⟨v2, rfl, hr, hb⟩; rw [← HWT.out, HWZ.out] at hb; obtain ⟨A4, k4, rfl, hC4⟩ := hr; have HR2 := Lib.hid (show BC w2 _ _ from ⟨A4, k4, rfl, hC4⟩); have HB2 := Lib.hid (HBT.out.trans (hb.mono HBT.out.size)); have hk2 : TokAt w2 wr.heap.size ⟨k, t, n, m⟩ := (hb.block _ HKT.out.lt).trans HKT.out; have HK2 := Lib.hid hk2; have d0 := hk2.c0; have d1 := hk2.c1; have d3 := hk2.c3; clear hb hk2 hC4)
    rcases (show k = 0 ∨ k = 1 ∨ k = 2 ∨ k = 3 by omega) with rfl | rfl | rfl | rfl
    · obtain ⟨M, rfl⟩ : ∃ M : Nat, m = (M : Int) := ⟨m.toNat, by have := HM.out; omega⟩
      have HN2 := Lib.hid (rnums1 HR2.out M (by have := HM.out; omega) (by have := HL2.out; omega))
      clear HR2
      go_wp2_with (go_at_call 112; refine HN2.out.mono ?_; rintro e w3 ⟨v3, rfl, hr, hb⟩; obtain ⟨A5, k5, rfl, hC5⟩ := hr; have HR3 := Lib.hid (show BC w3 _ _ from ⟨A5, k5, rfl, hC5⟩); have HB3 := Lib.hid (HB2.out.trans (hb.mono HB2.out.size)); have hk3 : TokAt w3 wr.heap.size ⟨0, t, n, (M : Int)⟩ := (hb.block _ HK2.out.lt).trans HK2.out; have f0 := hk3.c0; have f1 := hk3.c1; clear hb hk3 hC5)
      go_roundg (l.length - (i + 1))
      case measure => omega
      case rel => exact ⟨i + 1, by go_num, by omega, rfl, Lib.hid (by rw [HYZ.out, if_pos (by simp), Int.toNat_natCast, ← List.length_append]; exact HR3.out), HB3⟩
    · obtain ⟨M, rfl⟩ : ∃ M : Nat, t = (M : Int) := ⟨t.toNat, by have := HM.out; omega⟩
      have HN2 := Lib.hid (rnums1 HR2.out M (by have := HM.out; omega) (by have := HL2.out; omega))
      clear HR2
      go_wp2_with (go_at_call 112; refine HN2.out.mono ?_; rintro e w3 ⟨v3, rfl, hr, hb⟩; obtain ⟨A5, k5, rfl, hC5⟩ := hr; have HR3 := Lib.hid (show BC w3 _ _ from ⟨A5, k5, rfl, hC5⟩); have HB3 := Lib.hid (HB2.out.trans (hb.mono HB2.out.size)); have hk3 : TokAt w3 wr.heap.size ⟨1, (M : Int), n, m⟩ := (hb.block _ HK2.out.lt).trans HK2.out; have f0 := hk3.c0; have f1 := hk3.c1; clear hb hk3 hC5)
      go_roundg (l.length - (i + 1))
      case measure => omega
      case rel => exact ⟨i + 1, by go_num, by omega, rfl, Lib.hid (by rw [HYZ.out, if_neg (by decide), if_pos (by simp), Int.toNat_natCast, ← List.length_append]; exact HR3.out), HB3⟩
    · go_wp2_with (fail)
      go_roundg (l.length - (i + 1))
      case measure => omega
      case rel => exact ⟨i + 1, by go_num, by omega, rfl, Lib.hid (by rw [HYZ.out, if_neg (by decide), if_neg (by decide), List.append_nil]; exact HR2.out), HB2⟩
    · obtain ⟨M, rfl⟩ : ∃ M : Nat, t = (M : Int) := ⟨t.toNat, by have := HM.out; omega⟩
      have HN2 := Lib.hid (rnums1 HR2.out M (by have := HM.out; omega) (by have := HL2.out; omega))
      clear HR2
      go_wp2_with (go_at_call 112; refine HN2.out.mono ?_; rintro e w3 ⟨v3, rfl, hr, hb⟩; obtain ⟨A5, k5, rfl, hC5⟩ := hr; have HR3 := Lib.hid (show BC w3 _ _ from ⟨A5, k5, rfl, hC5⟩); have HB3 := Lib.hid (HB2.out.trans (hb.mono HB2.out.size)); have hk3 : TokAt w3 wr.heap.size ⟨3, (M : Int), n, m⟩ := (hb.block _ HK2.out.lt).trans HK2.out; have f0 := hk3.c0; have f1 := hk3.c1; clear hb hk3 hC5)
      go_roundg (l.length - (i + 1))
      case measure => omega
      case rel => exact ⟨i + 1, by go_num, by omega, rfl, Lib.hid (by rw [HYZ.out, if_neg (by decide), if_pos (by simp), Int.toNat_natCast, ← List.length_append]; exact HR3.out), HB3⟩
  · obtain rfl : i = l.length := by omega
    rw [List.take_length] at HR
    obtain ⟨A3, c3, rfl, _⟩ := HR.out
    go_wp2
    go_ret
    exact ⟨_, rfl, HR.out, HB.out⟩
theorem numsOk5 {x : K.S26} (h : EntOk x) : NumsOk [x.f0, x.f1, x.f2.f0, x.f2.f1, x.f2.f2] := by
 obtain ⟨h1, h2, h3, h4, h5, h6, h7, h8, h9, h10, h11⟩ := h
 exact getD_lt5 _ _ _ _ _ (by omega) (by omega) (by omega) (by omega) (by omega)
theorem numsOk3 {x : K.S26} (h : EntOk x) : NumsOk [x.f2.f3, x.f2.f4, x.f2.f5] := by
 obtain ⟨h1, h2, h3, h4, h5, h6, h7, h8, h9, h10, h11⟩ := h
 exact getD_lt3 _ _ _ (by omega) (by omega) (by omega)
set_option maxHeartbeats 8000000 in
theorem rentryw_is {w : World} {v : Value} {b : List Int} (hv : BC w v b) (x : K.S26) (A : Option Addr) (c : Nat) (hC : Kd.C K.k111 w A x.f2.f6.length x.f2.f6) (hok : EntOk x) (hb : b.length ≤ 110000000000000) :
 Calls Try.prog 108 #[v, entV x A c] w fun e w' => ∃ v', e = .returned v' ∧ BC w' v' (b ++ entryB x) ∧ Below w.heap.size w w' := by
 have hn5 := numsOk5 hok
 have hn3 := numsOk3 hok
 obtain ⟨who, seq, ⟨k, f, t, gf, gt, ins, sl, m⟩⟩ := x
 obtain ⟨h1, h2, h3, h4, h5, h6, h7, h8, h9, h10, h11⟩ := hok
 simp only at h1 h2 h3 h4 h5 h6 h7 h8 h9 h10 h11 hC hn5 hn3 ⊢
 unfold entryB
 simp only
 have hbl5 := vbs_le _ hn5
 have hbl3 := vbs_le _ hn3
 simp only [List.length_cons, List.length_nil] at hbl5 hbl3
 obtain ⟨w1, hw1⟩ : ∃ w1, w1 = w.alloc (.cells #[.int .i64 who, .int .i64 seq, .int .i64 k, .int .i64 f, .int .i64 t, .int .i64 gf, .int .i64 gt, .int .i64 ins, .slice A sl.length c, .int .i64 m] 26) := ⟨_, rfl⟩
 have hb1 : Below w.heap.size w w1 := by rw [hw1]; exact (Below.refl _ _).alloc (Nat.le_refl _) _
 have hz1 : w1.heap.size = w.heap.size + 1 := by rw [hw1]; exact World.size_alloc _ _
 obtain ⟨w2, hw2⟩ : ∃ w2, w2 = w1.alloc (.cells #[.int .i64 k, .int .i64 f, .int .i64 t, .int .i64 gf, .int .i64 gt, .int .i64 ins, .slice A sl.length c, .int .i64 m] 24) := ⟨_, rfl⟩
 have hb2 : Below w1.heap.size w1 w2 := by rw [hw2]; exact (Below.refl _ _).alloc (Nat.le_refl _) _
 have hz2 : w2.heap.size = w.heap.size + 2 := by rw [hw2, World.size_alloc]; omega
 have hS2 : StepAt w2 (w.heap.size + 1) k f t gf gt ins A sl.length c m := by rw [← hz1, hw2]; exact World.alloc_heap_new w1 _
 have hB2 : Below w.heap.size w w2 := hb1.trans (hb2.mono hb1.size)
 have hnum := rnumsL ((hv.below hb1).below hb2) [who, seq, k, f, t] #[.int .i64 who, .int .i64 seq, .int .i64 k, .int .i64 f, .int .i64 t] rfl (by simp) hn5 (by omega)
 obtain ⟨A0, c0, rfl, _⟩ := hv
 obtain ⟨ys, hys⟩ : ∃ ys, b ++ vbs [who, seq, k, f, t] = ys := ⟨_, rfl⟩
 have hyl : ys.length ≤ 110000000001000 := by rw [← hys, List.length_append]; omega
 have hcs : Kd.C K.k111 w2 A sl.length sl := Kd.C_below hC hB2
 rw [hys] at hnum
 rw [hz2, hw2, hw1] at hnum
 rw [← List.append_assoc, hys]
 have HNUM := Lib.hid hnum
 have HB2 := Lib.hid hB2
 have HS2 := Lib.hid hS2
 have HC := Lib.hid hcs
 have HTOK := Lib.hid h11
 have HZ : Hid (w.heap.size + 2 = w2.heap.size) := Lib.hid hz2.symm
 have HW12 : Hid (w2 = (w.alloc (.cells #[.int .i64 who, .int .i64 seq, .int .i64 k, .int .i64 f, .int .i64 t, .int .i64 gf, .int .i64 gt, .int .i64 ins, .slice A sl.length c, .int .i64 m] 26)).alloc (.cells #[.int .i64 k, .int .i64 f, .int .i64 t, .int .i64 gf, .int .i64 gt, .int .i64 ins, .slice A sl.length c, .int .i64 m] 24)) := Lib.hid (by rw [hw2, hw1])
 have HN3 := Lib.hid hn3
 clear hC hcs hb hnum hB2 hS2 h11 hys hbl5 hn5 hb1 hb2 hw1 hw2 hz1 hz2 hn3
 go_enter Try.func108, Try.ntmps108
 go_upto_region 3 with (go_at_call 112; refine HNUM.out.mono ?_; rintro e w3 ⟨v3, rfl, hr, hb⟩; rw [← HW12.out, HZ.out] at hb; obtain ⟨A3, k3, rfl, hC3⟩ := hr; have HR3 := Lib.hid (show BC w3 _ _ from ⟨A3, k3, rfl, hC3⟩); have HB3 := Lib.hid (HB2.out.trans (hb.mono HB2.out.size)); have hS3 : StepAt w3 (w.heap.size + 1) k f t gf gt ins A sl.length c m := (hb.block _ HS2.out.lt).trans HS2.out; have HS3 := Lib.hid hS3; have HC3 := Lib.hid (Kd.C_below HC.out hb); have d0 := hS3.c0; have d3 := hS3.c3; have d4 := hS3.c4; have d5 := hS3.c5; have d6 := hS3.c6; have d7 := hS3.c7; clear hb hS3 hC3)
 rcases (show k = 0 ∨ k = 1 ∨ k = 2 ∨ k = 3 by omega) with rfl | rfl | rfl | rfl
 · go_wp2_with (go_at_call 106; refine (rdocw_is HR3.out A c sl HC3.out h10 HTOK.out (by omega)).mono ?_; rintro e w4 ⟨v4, rfl, hr, hb⟩; have HR4 := Lib.hid hr; have HB4 := Lib.hid (HB3.out.trans (hb.mono HB3.out.size)); clear hr hb)
   refine bodyPost_ret (results_tmp rfl _ _ _) rfl ?_
   exact ⟨_, rfl, by (try rw [if_neg (by decide)]); (try rw [if_neg (by decide)]); exact HR4.out, HB4.out⟩
 · have HNUM3 := Lib.hid (rnumsL HR3.out [gf, gt, ins] #[.int .i64 gf, .int .i64 gt, .int .i64 ins] rfl (by simp) HN3.out (by omega))
   obtain ⟨zs, hzs⟩ : ∃ zs, ys ++ vbs [gf, gt, ins] = zs := ⟨_, rfl⟩
   have hzl : zs.length ≤ 110000000002000 := by rw [← hzs, List.length_append]; omega
   rw [hzs] at HNUM3
   have HZS := Lib.hid hzs
   clear hzs
   go_wp2_with (first
    | (go_at_call 112; refine HNUM3.out.mono ?_; rintro e w4 ⟨v4, rfl, hr, hb⟩; obtain ⟨A4, k4, rfl, hC4⟩ := hr; have HR4 := Lib.hid (show BC w4 _ _ from ⟨A4, k4, rfl, hC4⟩); have HB4 := Lib.hid (HB3.out.trans (hb.mono HB3.out.size)); have hS4 : StepAt w4 (w.heap.size + 1) 1 f t gf gt ins A sl.length c m := (hb.block _ HS3.out.lt).trans HS3.out; have HC4 := Lib.hid (Kd.C_below HC3.out hb); have e6 := hS4.c6; clear hb hS4 hC4)
    | (go_at_call 106; refine (rdocw_is HR4.out A c sl HC4.out h10 HTOK.out (by omega)).mono ?_; rintro e w5 ⟨v5, rfl, hr, hb⟩; have HR5 := Lib.hid hr; have HB5 := Lib.hid (HB4.out.trans (hb.mono HB4.out.size)); clear hr hb))
   refine bodyPost_ret (results_tmp rfl _ _ _) rfl ?_
   exact ⟨_, rfl, by (try rw [if_neg (by decide)]); (try rw [if_pos rfl]); rw [← List.append_assoc, HZS.out]; exact HR5.out, HB5.out⟩
 · obtain ⟨M, rfl⟩ : ∃ M : Nat, m = (M : Int) := ⟨m.toNat, by omega⟩
   have HNM := Lib.hid (rnums1 HR3.out M (by omega) (by omega))
   go_wp2_with (go_at_call 112; refine HNM.out.mono ?_; rintro e w4 ⟨v4, rfl, hr, hb⟩; have HR4 := Lib.hid hr; have HB4 := Lib.hid (HB3.out.trans (hb.mono HB3.out.size)); clear hr hb)
   go_ret
   exact ⟨_, rfl, by (try rw [if_pos (by decide)]); rw [vbs_one]; exact HR4.out, HB4.out⟩
 · obtain ⟨M, rfl⟩ : ∃ M : Nat, m = (M : Int) := ⟨m.toNat, by omega⟩
   have HNM := Lib.hid (rnums1 HR3.out M (by omega) (by omega))
   go_wp2_with (go_at_call 112; refine HNM.out.mono ?_; rintro e w4 ⟨v4, rfl, hr, hb⟩; have HR4 := Lib.hid hr; have HB4 := Lib.hid (HB3.out.trans (hb.mono HB3.out.size)); clear hr hb)
   go_ret
   exact ⟨_, rfl, by (try rw [if_pos (by decide)]); rw [vbs_one]; exact HR4.out, HB4.out⟩
end Go.Proofs.Ytmbnjgnmblgjoaa.Man
end
section
namespace Go.Proofs.Ytmbnjgnmblgjoaa.K
open Go.RowKit Go.Proofs.YtmbnjgnmblgjoaaW.PrintWords Go.Proofs.YtmbnjgnmblgjoaaW.PrintLast Go.Proofs.YtmbnjgnmblgjoaaW.PrintMore
attribute [local go_sem] max2_int min2_int max_two min_two max_three min_three max_four min_four
set_option linter.unusedVariables false
set_option linter.unusedSimpArgs false
mutual
def emenderref09_Check.j0 : Nat → Bool → Int → Int → Int → Int → Int → Int → List (S111) → Int → Option (Int)
 | 0, _, _, _, _, _, _, _, _, _ => none
 | k + 1, x24, x130000, x130001, x130002, x130003, x130004, x130005, x130006, x130007 => if x24 = true then (some 1) else (if x130003 = 0 then (if x130004 = 0 then (emenderref09_Check.j1 k (x130005 == 0) x130000 x130001 x130002 x130003 x130004 x130005 x130006 x130007) else (emenderref09_Check.j1 k false x130000 x130001 x130002 x130003 x130004 x130005 x130006 x130007)) else (emenderref09_Check.j1 k false x130000 x130001 x130002 x130003 x130004 x130005 x130006 x130007))
def emenderref09_Check.j1 : Nat → Bool → Int → Int → Int → Int → Int → Int → List (S111) → Int → Option (Int)
 | 0, _, _, _, _, _, _, _, _, _ => none
 | k + 1, x3, x130000, x130001, x130002, x130003, x130004, x130005, x130006, x130007 => if x130000 = 0 then (if x3 = true then (emenderref09_Check.j2 k (x130007 == 0) x130000 x130001 x130002 x130003 x130004 x130005 x130006 x130007) else (emenderref09_Check.j2 k false x130000 x130001 x130002 x130003 x130004 x130005 x130006 x130007)) else (if x130000 = 1 then (if x130001 ≤ x130003 then (if x130003 < x130004 then (if x130004 ≤ x130002 then (if x130005 ≥ 0 then (if x130005 ≤ (x130006.length : Int) then (emenderref09_Check.j2 k (x130007 == 0) x130000 x130001 x130002 x130003 x130004 x130005 x130006 x130007) else (emenderref09_Check.j2 k false x130000 x130001 x130002 x130003 x130004 x130005 x130006 x130007)) else (emenderref09_Check.j2 k false x130000 x130001 x130002 x130003 x130004 x130005 x130006 x130007)) else (emenderref09_Check.j2 k false x130000 x130001 x130002 x130003 x130004 x130005 x130006 x130007)) else (emenderref09_Check.j2 k false x130000 x130001 x130002 x130003 x130004 x130005 x130006 x130007)) else (emenderref09_Check.j2 k false x130000 x130001 x130002 x130003 x130004 x130005 x130006 x130007)) else (if x130000 = 2 then (if x3 = true then (if x130001 < x130002 then (if (x130006.length : Int) = 0 then (if x130007 = 1 then (emenderref09_Check.j2 k true x130000 x130001 x130002 x130003 x130004 x130005 x130006 x130007) else (if x130007 = 2 then (emenderref09_Check.j2 k true x130000 x130001 x130002 x130003 x130004 x130005 x130006 x130007) else (emenderref09_Check.j2 k (x130007 == 4) x130000 x130001 x130002 x130003 x130004 x130005 x130006 x130007))) else (emenderref09_Check.j2 k false x130000 x130001 x130002 x130003 x130004 x130005 x130006 x130007)) else (emenderref09_Check.j2 k false x130000 x130001 x130002 x130003 x130004 x130005 x130006 x130007)) else (emenderref09_Check.j2 k false x130000 x130001 x130002 x130003 x130004 x130005 x130006 x130007)) else (if x130000 = 3 then (if x3 = true then (if x130001 < x130002 then (if (x130006.length : Int) = 0 then (if x130007 = 1 then (emenderref09_Check.j2 k true x130000 x130001 x130002 x130003 x130004 x130005 x130006 x130007) else (if x130007 = 2 then (emenderref09_Check.j2 k true x130000 x130001 x130002 x130003 x130004 x130005 x130006 x130007) else (emenderref09_Check.j2 k (x130007 == 4) x130000 x130001 x130002 x130003 x130004 x130005 x130006 x130007))) else (emenderref09_Check.j2 k false x130000 x130001 x130002 x130003 x130004 x130005 x130006 x130007)) else (emenderref09_Check.j2 k false x130000 x130001 x130002 x130003 x130004 x130005 x130006 x130007)) else (emenderref09_Check.j2 k false x130000 x130001 x130002 x130003 x130004 x130005 x130006 x130007)) else (emenderref09_Check.j2 k false x130000 x130001 x130002 x130003 x130004 x130005 x130006 x130007))))
def emenderref09_Check.j2 : Nat → Bool → Int → Int → Int → Int → Int → Int → List (S111) → Int → Option (Int)
 | 0, _, _, _, _, _, _, _, _, _ => none
 | k + 1, x4, x130000, x130001, x130002, x130003, x130004, x130005, x130006, x130007 => emenderref09_Check.l0 k x4 0 x130000 x130001 x130002 x130003 x130004 x130005 x130006 x130007
def emenderref09_Check.l0 : Nat → Bool → Int → Int → Int → Int → Int → Int → Int → List (S111) → Int → Option (Int)
 | 0, _, _, _, _, _, _, _, _, _, _ => none
 | k + 1, x4, x5, x130000, x130001, x130002, x130003, x130004, x130005, x130006, x130007 => if x5 < (x130006.length : Int) then (if x4 = true then (if 0 ≤ x5 then ((emenderref04_Right.f k ((rd_T111 x130006 x5).f0) ((rd_T111 x130006 x5).f1) ((rd_T111 x130006 x5).f2) ((rd_T111 x130006 x5).f3)).bind fun t131 => (emenderref09_Check.l0 k t131 (wrap64 (x5 + 1)) x130000 x130001 x130002 x130003 x130004 x130005 x130006 x130007)) else (none)) else (emenderref09_Check.l0 k false (wrap64 (x5 + 1)) x130000 x130001 x130002 x130003 x130004 x130005 x130006 x130007)) else (if x4 = true then (some 0) else (some 1))
end
def emenderref09_Check.f (k : Nat) (a0_0 : Int) (a0_1 : Int) (a0_2 : Int) (a0_3 : Int) (a0_4 : Int) (a0_5 : Int) (l0_6 : List (S111)) (a0_7 : Int) : Option (Int) := if (l0_6.length : Int) > 2048 then (some 2) else (if a0_1 < 0 then (emenderref09_Check.j0 k true a0_0 a0_1 a0_2 a0_3 a0_4 a0_5 l0_6 a0_7) else (if a0_1 > a0_2 then (emenderref09_Check.j0 k true a0_0 a0_1 a0_2 a0_3 a0_4 a0_5 l0_6 a0_7) else (emenderref09_Check.j0 k (decide (a0_2 > 2048)) a0_0 a0_1 a0_2 a0_3 a0_4 a0_5 l0_6 a0_7)))
set_option maxHeartbeats 8000000 in
set_option maxRecDepth 100000 in
theorem emenderref09_Check.calls (k : Nat) (a0_0 : Int) (a0_1 : Int) (a0_2 : Int) (a0_3 : Int) (a0_4 : Int) (a0_5 : Int) (A0_6 : Option Addr) (c0_6 : Nat) (l0_6 : List (S111)) (a0_7 : Int) (r : Int) (w : World) (hr0_6 : Kd.C k111 w A0_6 l0_6.length l0_6) (hc0_6 : l0_6.length ≤ c0_6) (h : emenderref09_Check.f k a0_0 a0_1 a0_2 a0_3 a0_4 a0_5 l0_6 a0_7 = some r) :
 Calls Try.prog 151 #[.agg #[.int .i64 a0_0, .int .i64 a0_1, .int .i64 a0_2, .int .i64 a0_3, .int .i64 a0_4, .int .i64 a0_5, .slice A0_6 l0_6.length c0_6, .int .i64 a0_7]] w fun e w' => e = .returned (.int .i64 r) ∧ Below w.heap.size w w' := by
 have hu24 := Try.underlying24
 have hu111 := Try.underlying111
 have HR0_6 := Aside0.mk hr0_6
 have HC0_6 := Aside0.mk hc0_6
 clear hr0_6 hc0_6
 have HB := Aside0.mk (Below.refl w.heap.size w)
 have H : (if (l0_6.length : Int) > 2048 then (some 2) else (if a0_1 < 0 then (emenderref09_Check.j0 k true a0_0 a0_1 a0_2 a0_3 a0_4 a0_5 l0_6 a0_7) else (if a0_1 > a0_2 then (emenderref09_Check.j0 k true a0_0 a0_1 a0_2 a0_3 a0_4 a0_5 l0_6 a0_7) else (emenderref09_Check.j0 k (decide (a0_2 > 2048)) a0_0 a0_1 a0_2 a0_3 a0_4 a0_5 l0_6 a0_7)))) = some r := h
 clear h
 by_cases c2 : (l0_6.length : Int) > 2048
 · rw [if_pos c2] at H
   have c2b0 : decide (2048 < (l0_6.length : Int)) = true := decide_eq_true c2
   have c2b1 : decide (2048 < l0_6.length) = true := decide_eq_true (by omega)
   clear c2
   obtain rfl := Option.some.inj H
   go_enter Try.func151, Try.ntmps151
   go_wp2_with (first | ((with_reducible refine gate_dst (N := 1) rfl ?_); (try (refine gate_guard (by rfl) ?_; dsimp only)); refine box_event ?hg (N := 1) ?hd (cs := #[.int .i64 a0_0, .int .i64 a0_1, .int .i64 a0_2, .int .i64 a0_3, .int .i64 a0_4, .int .i64 a0_5, .slice A0_6 l0_6.length c0_6, .int .i64 a0_7]) (t := 24) ?hr ?_; (case hd => rfl); (case hg => rfl); (case hr => first | (go_simp; done) | (go_simp; rfl)); intro gb129 hg w3 hbox hb; have n0_ := Aside0.mk (below_step (by repeat (first | (with_reducible first | exact HB.out | apply below_alloc | apply pw_below_drewN | apply below_drew1) | exact HB.out)) hb); have n1_ := Aside0.mk (hbox); have n2_ := Aside0.mk ((by rw [hg]; exact (below_size (by repeat (first | (with_reducible first | exact HB.out | apply below_alloc | apply pw_below_drewN | apply below_drew1) | exact HB.out))) : w.heap.size ≤ gb129)); have n3_ := Aside0.mk ((by rw [hg]; exact (below_size (by repeat (first | (with_reducible first | exact HB.out | apply below_alloc | apply pw_below_drewN | apply below_drew1) | exact HB.out))) : w.heap.size ≤ gb129)); clear HB; have HB := n0_; have BK129 := n1_; have GW129 := n2_; have GE129 := n3_; clear n0_ n1_ n2_ n3_; clear hb hbox hg; have hcz4_0 : w3.cell? ⟨gb129, 0, none⟩ = some (.int .i64 a0_0) := (blk_cell BK129.out 0).trans rfl; have hcz4_1 : w3.cell? ⟨gb129, 1, none⟩ = some (.int .i64 a0_1) := (blk_cell BK129.out 1).trans rfl; have hcz4_2 : w3.cell? ⟨gb129, 2, none⟩ = some (.int .i64 a0_2) := (blk_cell BK129.out 2).trans rfl; have hcz4_3 : w3.cell? ⟨gb129, 3, none⟩ = some (.int .i64 a0_3) := (blk_cell BK129.out 3).trans rfl; have hcz4_4 : w3.cell? ⟨gb129, 4, none⟩ = some (.int .i64 a0_4) := (blk_cell BK129.out 4).trans rfl; have hcz4_5 : w3.cell? ⟨gb129, 5, none⟩ = some (.int .i64 a0_5) := (blk_cell BK129.out 5).trans rfl; have hcz4_6 : w3.cell? ⟨gb129, 6, none⟩ = some (.slice A0_6 l0_6.length c0_6) := (blk_cell BK129.out 6).trans rfl; have hcz4_7 : w3.cell? ⟨gb129, 7, none⟩ = some (.int .i64 a0_7) := (blk_cell BK129.out 7).trans rfl; have hfz4_0 := blk_frozen BK129.out 0; have hfz4_1 := blk_frozen BK129.out 1; have hfz4_2 := blk_frozen BK129.out 2; have hfz4_3 := blk_frozen BK129.out 3; have hfz4_4 := blk_frozen BK129.out 4; have hfz4_5 := blk_frozen BK129.out 5; have hfz4_6 := blk_frozen BK129.out 6; have hfz4_7 := blk_frozen BK129.out 7))
   go_ret
   exact ⟨by first | rfl | (simp [errW_none, errW_some] <;> rfl) | (simp [*, errW_none, errW_some] <;> rfl), by repeat (first | (with_reducible first | exact HB.out | apply below_alloc | apply pw_below_drewN | apply below_drew1 | refine below_set ?_ GE129.out) | exact HB.out)⟩
 · rw [if_neg c2] at H
   have c2b0 : decide (2048 < (l0_6.length : Int)) = false := decide_eq_false c2
   have c2b1 : decide (2048 < l0_6.length) = false := decide_eq_false (by omega)
   clear c2
   have HC5 := Aside0.mk H
   clear H
   go_enter Try.func151, Try.ntmps151
   go_upto_region 3 with (first | ((with_reducible refine gate_dst (N := 1) rfl ?_); (try (refine gate_guard (by rfl) ?_; dsimp only)); refine box_event ?hg (N := 1) ?hd (cs := #[.int .i64 a0_0, .int .i64 a0_1, .int .i64 a0_2, .int .i64 a0_3, .int .i64 a0_4, .int .i64 a0_5, .slice A0_6 l0_6.length c0_6, .int .i64 a0_7]) (t := 24) ?hr ?_; (case hd => rfl); (case hg => rfl); (case hr => first | (go_simp; done) | (go_simp; rfl)); intro gb129 hg w6 hbox hb; have n0_ := Aside0.mk (below_step (by repeat (first | (with_reducible first | exact HB.out | apply below_alloc | apply pw_below_drewN | apply below_drew1) | exact HB.out)) hb); have n1_ := Aside0.mk (hbox); have n2_ := Aside0.mk ((by rw [hg]; exact (below_size (by repeat (first | (with_reducible first | exact HB.out | apply below_alloc | apply pw_below_drewN | apply below_drew1) | exact HB.out))) : w.heap.size ≤ gb129)); have n3_ := Aside0.mk ((by rw [hg]; exact (below_size (by repeat (first | (with_reducible first | exact HB.out | apply below_alloc | apply pw_below_drewN | apply below_drew1) | exact HB.out))) : w.heap.size ≤ gb129)); clear HB; have HB := n0_; have BK129 := n1_; have GW129 := n2_; have GE129 := n3_; clear n0_ n1_ n2_ n3_; clear hb hbox hg; have hcz7_0 : w6.cell? ⟨gb129, 0, none⟩ = some (.int .i64 a0_0) := (blk_cell BK129.out 0).trans rfl; have hcz7_1 : w6.cell? ⟨gb129, 1, none⟩ = some (.int .i64 a0_1) := (blk_cell BK129.out 1).trans rfl; have hcz7_2 : w6.cell? ⟨gb129, 2, none⟩ = some (.int .i64 a0_2) := (blk_cell BK129.out 2).trans rfl; have hcz7_3 : w6.cell? ⟨gb129, 3, none⟩ = some (.int .i64 a0_3) := (blk_cell BK129.out 3).trans rfl; have hcz7_4 : w6.cell? ⟨gb129, 4, none⟩ = some (.int .i64 a0_4) := (blk_cell BK129.out 4).trans rfl; have hcz7_5 : w6.cell? ⟨gb129, 5, none⟩ = some (.int .i64 a0_5) := (blk_cell BK129.out 5).trans rfl; have hcz7_6 : w6.cell? ⟨gb129, 6, none⟩ = some (.slice A0_6 l0_6.length c0_6) := (blk_cell BK129.out 6).trans rfl; have hcz7_7 : w6.cell? ⟨gb129, 7, none⟩ = some (.int .i64 a0_7) := (blk_cell BK129.out 7).trans rfl; have hfz7_0 := blk_frozen BK129.out 0; have hfz7_1 := blk_frozen BK129.out 1; have hfz7_2 := blk_frozen BK129.out 2; have hfz7_3 := blk_frozen BK129.out 3; have hfz7_4 := blk_frozen BK129.out 4; have hfz7_5 := blk_frozen BK129.out 5; have hfz7_6 := blk_frozen BK129.out 6; have hfz7_7 := blk_frozen BK129.out 7))
   (try simp only [Act.put, sA_, sB_, sC_])
   go_cut [24] (fun v24 wc => ∃ (kq : Nat) (x24_4 : Bool), v24 = .bool x24_4 ∧ Aside0 (emenderref09_Check.j0 kq x24_4 a0_0 a0_1 a0_2 a0_3 a0_4 a0_5 l0_6 a0_7 = some r) ∧ Aside0 (kq ≤ k) ∧ Aside0 (wc.heap[gb129]? = some (.cells #[.int .i64 a0_0, .int .i64 a0_1, .int .i64 a0_2, .int .i64 a0_3, .int .i64 a0_4, .int .i64 a0_5, (.slice A0_6 l0_6.length c0_6), .int .i64 a0_7] 24 (0, 0))) ∧ Aside0 (Below w.heap.size w wc))
   case first =>
    have H := HC5.out
    clear HC5
    by_cases c8 : a0_1 < 0
    · rw [if_pos c8] at H
      have c8b0 : decide (a0_1 < 0) = true := decide_eq_true c8
      clear c8
      (first | rw [c8b0] | (simp only [i64_w, i32_w]; rw [c8b0]) | skip)
      have H' := Aside0.mk H
      clear H
      have hcz9_0 : w6.cell? ⟨gb129, 0, none⟩ = some (.int .i64 a0_0) := (blk_cell BK129.out 0).trans rfl
      have hcz9_1 : w6.cell? ⟨gb129, 1, none⟩ = some (.int .i64 a0_1) := (blk_cell BK129.out 1).trans rfl
      have hcz9_2 : w6.cell? ⟨gb129, 2, none⟩ = some (.int .i64 a0_2) := (blk_cell BK129.out 2).trans rfl
      have hcz9_3 : w6.cell? ⟨gb129, 3, none⟩ = some (.int .i64 a0_3) := (blk_cell BK129.out 3).trans rfl
      have hcz9_4 : w6.cell? ⟨gb129, 4, none⟩ = some (.int .i64 a0_4) := (blk_cell BK129.out 4).trans rfl
      have hcz9_5 : w6.cell? ⟨gb129, 5, none⟩ = some (.int .i64 a0_5) := (blk_cell BK129.out 5).trans rfl
      have hcz9_6 : w6.cell? ⟨gb129, 6, none⟩ = some (.slice A0_6 l0_6.length c0_6) := (blk_cell BK129.out 6).trans rfl
      have hcz9_7 : w6.cell? ⟨gb129, 7, none⟩ = some (.int .i64 a0_7) := (blk_cell BK129.out 7).trans rfl
      have hfz9_0 := blk_frozen BK129.out 0
      have hfz9_1 := blk_frozen BK129.out 1
      have hfz9_2 := blk_frozen BK129.out 2
      have hfz9_3 := blk_frozen BK129.out 3
      have hfz9_4 := blk_frozen BK129.out 4
      have hfz9_5 := blk_frozen BK129.out 5
      have hfz9_6 := blk_frozen BK129.out 6
      have hfz9_7 := blk_frozen BK129.out 7
      go_wp2
      go_meet
      case rel => exact ⟨_, (true), (by first | rfl | (simp; done) | (simp [*]; done)), H', ⟨by first | omega | exact Nat.le_refl _⟩, ⟨by (with_reducible repeat (first | refine blk_drewN ?_ _ | refine blk_drew ?_ | refine blk_alloc ?_ _)); exact BK129.out⟩, ⟨by repeat (first | (with_reducible first | exact HB.out | apply below_alloc | apply pw_below_drewN | apply below_drew1 | refine below_set ?_ GE129.out) | exact HB.out)⟩⟩
    · rw [if_neg c8] at H
      have c8b0 : decide (a0_1 < 0) = false := decide_eq_false c8
      clear c8
      (first | rw [c8b0] | (simp only [i64_w, i32_w]; rw [c8b0]) | skip)
      by_cases c10 : a0_1 > a0_2
      · rw [if_pos c10] at H
        have c10b0 : decide (a0_2 < a0_1) = true := decide_eq_true c10
        clear c10
        have H' := Aside0.mk H
        clear H
        have hcz11_0 : w6.cell? ⟨gb129, 0, none⟩ = some (.int .i64 a0_0) := (blk_cell BK129.out 0).trans rfl
        have hcz11_1 : w6.cell? ⟨gb129, 1, none⟩ = some (.int .i64 a0_1) := (blk_cell BK129.out 1).trans rfl
        have hcz11_2 : w6.cell? ⟨gb129, 2, none⟩ = some (.int .i64 a0_2) := (blk_cell BK129.out 2).trans rfl
        have hcz11_3 : w6.cell? ⟨gb129, 3, none⟩ = some (.int .i64 a0_3) := (blk_cell BK129.out 3).trans rfl
        have hcz11_4 : w6.cell? ⟨gb129, 4, none⟩ = some (.int .i64 a0_4) := (blk_cell BK129.out 4).trans rfl
        have hcz11_5 : w6.cell? ⟨gb129, 5, none⟩ = some (.int .i64 a0_5) := (blk_cell BK129.out 5).trans rfl
        have hcz11_6 : w6.cell? ⟨gb129, 6, none⟩ = some (.slice A0_6 l0_6.length c0_6) := (blk_cell BK129.out 6).trans rfl
        have hcz11_7 : w6.cell? ⟨gb129, 7, none⟩ = some (.int .i64 a0_7) := (blk_cell BK129.out 7).trans rfl
        have hfz11_0 := blk_frozen BK129.out 0
        have hfz11_1 := blk_frozen BK129.out 1
        have hfz11_2 := blk_frozen BK129.out 2
        have hfz11_3 := blk_frozen BK129.out 3
        have hfz11_4 := blk_frozen BK129.out 4
        have hfz11_5 := blk_frozen BK129.out 5
        have hfz11_6 := blk_frozen BK129.out 6
        have hfz11_7 := blk_frozen BK129.out 7
        go_wp2
        go_meet
        case rel => exact ⟨_, (true), (by first | rfl | (simp; done) | (simp [*]; done)), H', ⟨by first | omega | exact Nat.le_refl _⟩, ⟨by (with_reducible repeat (first | refine blk_drewN ?_ _ | refine blk_drew ?_ | refine blk_alloc ?_ _)); exact BK129.out⟩, ⟨by repeat (first | (with_reducible first | exact HB.out | apply below_alloc | apply pw_below_drewN | apply below_drew1 | refine below_set ?_ GE129.out) | exact HB.out)⟩⟩
      · rw [if_neg c10] at H
        have c10b0 : decide (a0_2 < a0_1) = false := decide_eq_false c10
        clear c10
        have H' := Aside0.mk H
        clear H
        have hcz12_0 : w6.cell? ⟨gb129, 0, none⟩ = some (.int .i64 a0_0) := (blk_cell BK129.out 0).trans rfl
        have hcz12_1 : w6.cell? ⟨gb129, 1, none⟩ = some (.int .i64 a0_1) := (blk_cell BK129.out 1).trans rfl
        have hcz12_2 : w6.cell? ⟨gb129, 2, none⟩ = some (.int .i64 a0_2) := (blk_cell BK129.out 2).trans rfl
        have hcz12_3 : w6.cell? ⟨gb129, 3, none⟩ = some (.int .i64 a0_3) := (blk_cell BK129.out 3).trans rfl
        have hcz12_4 : w6.cell? ⟨gb129, 4, none⟩ = some (.int .i64 a0_4) := (blk_cell BK129.out 4).trans rfl
        have hcz12_5 : w6.cell? ⟨gb129, 5, none⟩ = some (.int .i64 a0_5) := (blk_cell BK129.out 5).trans rfl
        have hcz12_6 : w6.cell? ⟨gb129, 6, none⟩ = some (.slice A0_6 l0_6.length c0_6) := (blk_cell BK129.out 6).trans rfl
        have hcz12_7 : w6.cell? ⟨gb129, 7, none⟩ = some (.int .i64 a0_7) := (blk_cell BK129.out 7).trans rfl
        have hfz12_0 := blk_frozen BK129.out 0
        have hfz12_1 := blk_frozen BK129.out 1
        have hfz12_2 := blk_frozen BK129.out 2
        have hfz12_3 := blk_frozen BK129.out 3
        have hfz12_4 := blk_frozen BK129.out 4
        have hfz12_5 := blk_frozen BK129.out 5
        have hfz12_6 := blk_frozen BK129.out 6
        have hfz12_7 := blk_frozen BK129.out 7
        go_wp2
        go_meet
        case rel => exact ⟨_, (decide (a0_2 > 2048)), (by first | rfl | (simp; done) | (simp [*]; done)), H', ⟨by first | omega | exact Nat.le_refl _⟩, ⟨by (with_reducible repeat (first | refine blk_drewN ?_ _ | refine blk_drew ?_ | refine blk_alloc ?_ _)); exact BK129.out⟩, ⟨by repeat (first | (with_reducible first | exact HB.out | apply below_alloc | apply pw_below_drewN | apply below_drew1 | refine below_set ?_ GE129.out) | exact HB.out)⟩⟩
   case rest =>
    clear HC5
    try clear c1
    try clear c2
    try clear c2b0
    try clear c2b1
    try clear p2
    try clear c8
    try clear c8b0
    try clear c10
    try clear c10b0
    try clear hcz11_0
    try clear hcz11_1
    try clear hcz11_2
    try clear hcz11_3
    try clear hcz11_4
    try clear hcz11_5
    try clear hcz11_6
    try clear hcz11_7
    try clear hcz12_0
    try clear hcz12_1
    try clear hcz12_2
    try clear hcz12_3
    try clear hcz12_4
    try clear hcz12_5
    try clear hcz12_6
    try clear hcz12_7
    try clear hcz4_0
    try clear hcz4_1
    try clear hcz4_2
    try clear hcz4_3
    try clear hcz4_4
    try clear hcz4_5
    try clear hcz4_6
    try clear hcz4_7
    try clear hcz7_0
    try clear hcz7_1
    try clear hcz7_2
    try clear hcz7_3
    try clear hcz7_4
    try clear hcz7_5
    try clear hcz7_6
    try clear hcz7_7
    try clear hcz9_0
    try clear hcz9_1
    try clear hcz9_2
    try clear hcz9_3
    try clear hcz9_4
    try clear hcz9_5
    try clear hcz9_6
    try clear hcz9_7
    try clear hfz11_0
    try clear hfz11_1
    try clear hfz11_2
    try clear hfz11_3
    try clear hfz11_4
    try clear hfz11_5
    try clear hfz11_6
    try clear hfz11_7
    try clear hfz12_0
    try clear hfz12_1
    try clear hfz12_2
    try clear hfz12_3
    try clear hfz12_4
    try clear hfz12_5
    try clear hfz12_6
    try clear hfz12_7
    try clear hfz4_0
    try clear hfz4_1
    try clear hfz4_2
    try clear hfz4_3
    try clear hfz4_4
    try clear hfz4_5
    try clear hfz4_6
    try clear hfz4_7
    try clear hfz7_0
    try clear hfz7_1
    try clear hfz7_2
    try clear hfz7_3
    try clear hfz7_4
    try clear hfz7_5
    try clear hfz7_6
    try clear hfz7_7
    try clear hfz9_0
    try clear hfz9_1
    try clear hfz9_2
    try clear hfz9_3
    try clear hfz9_4
    try clear hfz9_5
    try clear hfz9_6
    try clear hfz9_7
    obtain ⟨kq, x24_4, rfl, HA, HJ4, BK129, HB⟩ := hcut
    cases kq with
    | zero => exact absurd HA.out (by simp [emenderref09_Check.j0])
    | succ kj4 =>
     have H := HA.out
     clear HA
     simp only [emenderref09_Check.j0] at H
     by_cases c13 : x24_4 = true
     · subst c13
       have H1 : (some 1) = some r := by rw [if_pos rfl] at H; exact H
       clear H
       have H := H1
       clear H1
       obtain rfl := Option.some.inj H
       go_wp2
       go_ret
       exact ⟨by first | rfl | (simp [errW_none, errW_some] <;> rfl) | (simp [*, errW_none, errW_some] <;> rfl), by repeat (first | (with_reducible first | exact HB.out | apply below_alloc | apply pw_below_drewN | apply below_drew1 | refine below_set ?_ GE129.out) | exact HB.out)⟩
     · replace c13 := Bool.eq_false_iff.mpr c13
       subst c13
       have H1 : (if a0_3 = 0 then (if a0_4 = 0 then (emenderref09_Check.j1 kj4 (a0_5 == 0) a0_0 a0_1 a0_2 a0_3 a0_4 a0_5 l0_6 a0_7) else (emenderref09_Check.j1 kj4 false a0_0 a0_1 a0_2 a0_3 a0_4 a0_5 l0_6 a0_7)) else (emenderref09_Check.j1 kj4 false a0_0 a0_1 a0_2 a0_3 a0_4 a0_5 l0_6 a0_7)) = some r := by rw [if_neg (show ¬ (false = true) by decide)] at H; exact H
       clear H
       have H := H1
       clear H1
       have HC14 := Aside0.mk H
       clear H
       go_upto_region 5 with (fail)
       go_cut [3] (fun v3 wc => ∃ (kq : Nat) (x3_13 : Bool), v3 = .bool x3_13 ∧ Aside0 (emenderref09_Check.j1 kq x3_13 a0_0 a0_1 a0_2 a0_3 a0_4 a0_5 l0_6 a0_7 = some r) ∧ Aside0 (kq ≤ kj4) ∧ Aside0 (wc.heap[gb129]? = some (.cells #[.int .i64 a0_0, .int .i64 a0_1, .int .i64 a0_2, .int .i64 a0_3, .int .i64 a0_4, .int .i64 a0_5, (.slice A0_6 l0_6.length c0_6), .int .i64 a0_7] 24 (0, 0))) ∧ Aside0 (Below w.heap.size w wc))
       case first =>
        have H := HC14.out
        clear HC14
        by_cases c15 : a0_3 = 0
        · rw [if_pos c15] at H
          have c15b0 : (a0_3 == 0) = true := beq_iff_eq.mpr c15
          have c15b1 : (a0_3 != 0) = false := bne_eq_false_iff_eq.mpr c15
          clear c15
          (first | rw [c15b0] | (simp only [i64_w, i32_w]; rw [c15b0]) | skip)
          by_cases c16 : a0_4 = 0
          · rw [if_pos c16] at H
            have c16b0 : (a0_4 == 0) = true := beq_iff_eq.mpr c16
            have c16b1 : (a0_4 != 0) = false := bne_eq_false_iff_eq.mpr c16
            clear c16
            have H' := Aside0.mk H
            clear H
            have hcz17_0 : wc.cell? ⟨gb129, 0, none⟩ = some (.int .i64 a0_0) := (blk_cell BK129.out 0).trans rfl
            have hcz17_1 : wc.cell? ⟨gb129, 1, none⟩ = some (.int .i64 a0_1) := (blk_cell BK129.out 1).trans rfl
            have hcz17_2 : wc.cell? ⟨gb129, 2, none⟩ = some (.int .i64 a0_2) := (blk_cell BK129.out 2).trans rfl
            have hcz17_3 : wc.cell? ⟨gb129, 3, none⟩ = some (.int .i64 a0_3) := (blk_cell BK129.out 3).trans rfl
            have hcz17_4 : wc.cell? ⟨gb129, 4, none⟩ = some (.int .i64 a0_4) := (blk_cell BK129.out 4).trans rfl
            have hcz17_5 : wc.cell? ⟨gb129, 5, none⟩ = some (.int .i64 a0_5) := (blk_cell BK129.out 5).trans rfl
            have hcz17_6 : wc.cell? ⟨gb129, 6, none⟩ = some (.slice A0_6 l0_6.length c0_6) := (blk_cell BK129.out 6).trans rfl
            have hcz17_7 : wc.cell? ⟨gb129, 7, none⟩ = some (.int .i64 a0_7) := (blk_cell BK129.out 7).trans rfl
            have hfz17_0 := blk_frozen BK129.out 0
            have hfz17_1 := blk_frozen BK129.out 1
            have hfz17_2 := blk_frozen BK129.out 2
            have hfz17_3 := blk_frozen BK129.out 3
            have hfz17_4 := blk_frozen BK129.out 4
            have hfz17_5 := blk_frozen BK129.out 5
            have hfz17_6 := blk_frozen BK129.out 6
            have hfz17_7 := blk_frozen BK129.out 7
            go_wp2
            go_meet
            case rel => exact ⟨_, ((a0_5 == 0)), (by first | rfl | (simp; done) | (simp [*]; done)), H', ⟨by have := HJ4.out; first | omega | exact Nat.le_refl _⟩, ⟨by (with_reducible repeat (first | refine blk_drewN ?_ _ | refine blk_drew ?_ | refine blk_alloc ?_ _)); exact BK129.out⟩, ⟨by repeat (first | (with_reducible first | exact HB.out | apply below_alloc | apply pw_below_drewN | apply below_drew1 | refine below_set ?_ GE129.out) | exact HB.out)⟩⟩
          · rw [if_neg c16] at H
            have c16b0 : (a0_4 == 0) = false := beq_eq_false_iff_ne.mpr c16
            have c16b1 : (a0_4 != 0) = true := bne_iff_ne.mpr c16
            have H' := Aside0.mk H
            clear H
            have hcz18_0 : wc.cell? ⟨gb129, 0, none⟩ = some (.int .i64 a0_0) := (blk_cell BK129.out 0).trans rfl
            have hcz18_1 : wc.cell? ⟨gb129, 1, none⟩ = some (.int .i64 a0_1) := (blk_cell BK129.out 1).trans rfl
            have hcz18_2 : wc.cell? ⟨gb129, 2, none⟩ = some (.int .i64 a0_2) := (blk_cell BK129.out 2).trans rfl
            have hcz18_3 : wc.cell? ⟨gb129, 3, none⟩ = some (.int .i64 a0_3) := (blk_cell BK129.out 3).trans rfl
            have hcz18_4 : wc.cell? ⟨gb129, 4, none⟩ = some (.int .i64 a0_4) := (blk_cell BK129.out 4).trans rfl
            have hcz18_5 : wc.cell? ⟨gb129, 5, none⟩ = some (.int .i64 a0_5) := (blk_cell BK129.out 5).trans rfl
            have hcz18_6 : wc.cell? ⟨gb129, 6, none⟩ = some (.slice A0_6 l0_6.length c0_6) := (blk_cell BK129.out 6).trans rfl
            have hcz18_7 : wc.cell? ⟨gb129, 7, none⟩ = some (.int .i64 a0_7) := (blk_cell BK129.out 7).trans rfl
            have hfz18_0 := blk_frozen BK129.out 0
            have hfz18_1 := blk_frozen BK129.out 1
            have hfz18_2 := blk_frozen BK129.out 2
            have hfz18_3 := blk_frozen BK129.out 3
            have hfz18_4 := blk_frozen BK129.out 4
            have hfz18_5 := blk_frozen BK129.out 5
            have hfz18_6 := blk_frozen BK129.out 6
            have hfz18_7 := blk_frozen BK129.out 7
            go_wp2
            go_meet
            case rel => exact ⟨_, (false), (by first | rfl | (simp; done) | (simp [*]; done)), H', ⟨by have := HJ4.out; first | omega | exact Nat.le_refl _⟩, ⟨by (with_reducible repeat (first | refine blk_drewN ?_ _ | refine blk_drew ?_ | refine blk_alloc ?_ _)); exact BK129.out⟩, ⟨by repeat (first | (with_reducible first | exact HB.out | apply below_alloc | apply pw_below_drewN | apply below_drew1 | refine below_set ?_ GE129.out) | exact HB.out)⟩⟩
        · rw [if_neg c15] at H
          have c15b0 : (a0_3 == 0) = false := beq_eq_false_iff_ne.mpr c15
          have c15b1 : (a0_3 != 0) = true := bne_iff_ne.mpr c15
          (first | rw [c15b0] | (simp only [i64_w, i32_w]; rw [c15b0]) | skip)
          have H' := Aside0.mk H
          clear H
          have hcz19_0 : wc.cell? ⟨gb129, 0, none⟩ = some (.int .i64 a0_0) := (blk_cell BK129.out 0).trans rfl
          have hcz19_1 : wc.cell? ⟨gb129, 1, none⟩ = some (.int .i64 a0_1) := (blk_cell BK129.out 1).trans rfl
          have hcz19_2 : wc.cell? ⟨gb129, 2, none⟩ = some (.int .i64 a0_2) := (blk_cell BK129.out 2).trans rfl
          have hcz19_3 : wc.cell? ⟨gb129, 3, none⟩ = some (.int .i64 a0_3) := (blk_cell BK129.out 3).trans rfl
          have hcz19_4 : wc.cell? ⟨gb129, 4, none⟩ = some (.int .i64 a0_4) := (blk_cell BK129.out 4).trans rfl
          have hcz19_5 : wc.cell? ⟨gb129, 5, none⟩ = some (.int .i64 a0_5) := (blk_cell BK129.out 5).trans rfl
          have hcz19_6 : wc.cell? ⟨gb129, 6, none⟩ = some (.slice A0_6 l0_6.length c0_6) := (blk_cell BK129.out 6).trans rfl
          have hcz19_7 : wc.cell? ⟨gb129, 7, none⟩ = some (.int .i64 a0_7) := (blk_cell BK129.out 7).trans rfl
          have hfz19_0 := blk_frozen BK129.out 0
          have hfz19_1 := blk_frozen BK129.out 1
          have hfz19_2 := blk_frozen BK129.out 2
          have hfz19_3 := blk_frozen BK129.out 3
          have hfz19_4 := blk_frozen BK129.out 4
          have hfz19_5 := blk_frozen BK129.out 5
          have hfz19_6 := blk_frozen BK129.out 6
          have hfz19_7 := blk_frozen BK129.out 7
          go_wp2
          go_meet
          case rel => exact ⟨_, (false), (by first | rfl | (simp; done) | (simp [*]; done)), H', ⟨by have := HJ4.out; first | omega | exact Nat.le_refl _⟩, ⟨by (with_reducible repeat (first | refine blk_drewN ?_ _ | refine blk_drew ?_ | refine blk_alloc ?_ _)); exact BK129.out⟩, ⟨by repeat (first | (with_reducible first | exact HB.out | apply below_alloc | apply pw_below_drewN | apply below_drew1 | refine below_set ?_ GE129.out) | exact HB.out)⟩⟩
       case rest =>
        clear HC14
        try clear c1
        try clear c2
        try clear c2b0
        try clear c2b1
        try clear p2
        try clear c8
        try clear c8b0
        try clear c10
        try clear c10b0
        try clear c13
        try clear c15
        try clear c15b0
        try clear c15b1
        try clear c16
        try clear c16b0
        try clear c16b1
        try clear hcz11_0
        try clear hcz11_1
        try clear hcz11_2
        try clear hcz11_3
        try clear hcz11_4
        try clear hcz11_5
        try clear hcz11_6
        try clear hcz11_7
        try clear hcz12_0
        try clear hcz12_1
        try clear hcz12_2
        try clear hcz12_3
        try clear hcz12_4
        try clear hcz12_5
        try clear hcz12_6
        try clear hcz12_7
        try clear hcz17_0
        try clear hcz17_1
        try clear hcz17_2
        try clear hcz17_3
        try clear hcz17_4
        try clear hcz17_5
        try clear hcz17_6
        try clear hcz17_7
        try clear hcz18_0
        try clear hcz18_1
        try clear hcz18_2
        try clear hcz18_3
        try clear hcz18_4
        try clear hcz18_5
        try clear hcz18_6
        try clear hcz18_7
        try clear hcz19_0
        try clear hcz19_1
        try clear hcz19_2
        try clear hcz19_3
        try clear hcz19_4
        try clear hcz19_5
        try clear hcz19_6
        try clear hcz19_7
        try clear hcz4_0
        try clear hcz4_1
        try clear hcz4_2
        try clear hcz4_3
        try clear hcz4_4
        try clear hcz4_5
        try clear hcz4_6
        try clear hcz4_7
        try clear hcz7_0
        try clear hcz7_1
        try clear hcz7_2
        try clear hcz7_3
        try clear hcz7_4
        try clear hcz7_5
        try clear hcz7_6
        try clear hcz7_7
        try clear hcz9_0
        try clear hcz9_1
        try clear hcz9_2
        try clear hcz9_3
        try clear hcz9_4
        try clear hcz9_5
        try clear hcz9_6
        try clear hcz9_7
        try clear hfz11_0
        try clear hfz11_1
        try clear hfz11_2
        try clear hfz11_3
        try clear hfz11_4
        try clear hfz11_5
        try clear hfz11_6
        try clear hfz11_7
        try clear hfz12_0
        try clear hfz12_1
        try clear hfz12_2
        try clear hfz12_3
        try clear hfz12_4
        try clear hfz12_5
        try clear hfz12_6
        try clear hfz12_7
        try clear hfz17_0
        try clear hfz17_1
        try clear hfz17_2
        try clear hfz17_3
        try clear hfz17_4
        try clear hfz17_5
        try clear hfz17_6
        try clear hfz17_7
        try clear hfz18_0
        try clear hfz18_1
        try clear hfz18_2
        try clear hfz18_3
        try clear hfz18_4
        try clear hfz18_5
        try clear hfz18_6
        try clear hfz18_7
        try clear hfz19_0
        try clear hfz19_1
        try clear hfz19_2
        try clear hfz19_3
        try clear hfz19_4
        try clear hfz19_5
        try clear hfz19_6
        try clear hfz19_7
        try clear hfz4_0
        try clear hfz4_1
        try clear hfz4_2
        try clear hfz4_3
        try clear hfz4_4
        try clear hfz4_5
        try clear hfz4_6
        try clear hfz4_7
        try clear hfz7_0
        try clear hfz7_1
        try clear hfz7_2
        try clear hfz7_3
        try clear hfz7_4
        try clear hfz7_5
        try clear hfz7_6
        try clear hfz7_7
        try clear hfz9_0
        try clear hfz9_1
        try clear hfz9_2
        try clear hfz9_3
        try clear hfz9_4
        try clear hfz9_5
        try clear hfz9_6
        try clear hfz9_7
        try clear p2
        obtain ⟨kq, x3_13, rfl, HA, HJ13, BK129, HB⟩ := hcut
        cases kq with
        | zero => exact absurd HA.out (by simp [emenderref09_Check.j1])
        | succ kj13 =>
         have H := HA.out
         clear HA
         simp only [emenderref09_Check.j1] at H
         have HC20 := Aside0.mk H
         clear H
         have hcz21_0 : wc.cell? ⟨gb129, 0, none⟩ = some (.int .i64 a0_0) := (blk_cell BK129.out 0).trans rfl
         have hcz21_1 : wc.cell? ⟨gb129, 1, none⟩ = some (.int .i64 a0_1) := (blk_cell BK129.out 1).trans rfl
         have hcz21_2 : wc.cell? ⟨gb129, 2, none⟩ = some (.int .i64 a0_2) := (blk_cell BK129.out 2).trans rfl
         have hcz21_3 : wc.cell? ⟨gb129, 3, none⟩ = some (.int .i64 a0_3) := (blk_cell BK129.out 3).trans rfl
         have hcz21_4 : wc.cell? ⟨gb129, 4, none⟩ = some (.int .i64 a0_4) := (blk_cell BK129.out 4).trans rfl
         have hcz21_5 : wc.cell? ⟨gb129, 5, none⟩ = some (.int .i64 a0_5) := (blk_cell BK129.out 5).trans rfl
         have hcz21_6 : wc.cell? ⟨gb129, 6, none⟩ = some (.slice A0_6 l0_6.length c0_6) := (blk_cell BK129.out 6).trans rfl
         have hcz21_7 : wc.cell? ⟨gb129, 7, none⟩ = some (.int .i64 a0_7) := (blk_cell BK129.out 7).trans rfl
         have hfz21_0 := blk_frozen BK129.out 0
         have hfz21_1 := blk_frozen BK129.out 1
         have hfz21_2 := blk_frozen BK129.out 2
         have hfz21_3 := blk_frozen BK129.out 3
         have hfz21_4 := blk_frozen BK129.out 4
         have hfz21_5 := blk_frozen BK129.out 5
         have hfz21_6 := blk_frozen BK129.out 6
         have hfz21_7 := blk_frozen BK129.out 7
         go_upto_block 0 with (fail)
         go_cut [4] (fun v4 wc => ∃ (kq : Nat) (x4_19 : Bool), v4 = .bool x4_19 ∧ Aside0 (emenderref09_Check.j2 kq x4_19 a0_0 a0_1 a0_2 a0_3 a0_4 a0_5 l0_6 a0_7 = some r) ∧ Aside0 (kq ≤ kj13) ∧ Aside0 (wc.heap[gb129]? = some (.cells #[.int .i64 a0_0, .int .i64 a0_1, .int .i64 a0_2, .int .i64 a0_3, .int .i64 a0_4, .int .i64 a0_5, (.slice A0_6 l0_6.length c0_6), .int .i64 a0_7] 24 (0, 0))) ∧ Aside0 (Below w.heap.size w wc))
         case first =>
          have H := HC20.out
          clear HC20
          by_cases c22 : a0_0 = 0
          · rw [if_pos c22] at H
            have c22b0 : (a0_0 == 0) = true := beq_iff_eq.mpr c22
            have c22b1 : (a0_0 != 0) = false := bne_eq_false_iff_eq.mpr c22
            clear c22
            (first | rw [c22b0] | (simp only [i64_w, i32_w]; rw [c22b0]) | skip)
            by_cases c23 : x3_13 = true
            · subst c23
              have H1 : (emenderref09_Check.j2 kj13 (a0_7 == 0) a0_0 a0_1 a0_2 a0_3 a0_4 a0_5 l0_6 a0_7) = some r := by rw [if_pos rfl] at H; exact H
              clear H
              have H := H1
              clear H1
              have H' := Aside0.mk H
              clear H
              have hcz24_0 : wc.cell? ⟨gb129, 0, none⟩ = some (.int .i64 a0_0) := (blk_cell BK129.out 0).trans rfl
              have hcz24_1 : wc.cell? ⟨gb129, 1, none⟩ = some (.int .i64 a0_1) := (blk_cell BK129.out 1).trans rfl
              have hcz24_2 : wc.cell? ⟨gb129, 2, none⟩ = some (.int .i64 a0_2) := (blk_cell BK129.out 2).trans rfl
              have hcz24_3 : wc.cell? ⟨gb129, 3, none⟩ = some (.int .i64 a0_3) := (blk_cell BK129.out 3).trans rfl
              have hcz24_4 : wc.cell? ⟨gb129, 4, none⟩ = some (.int .i64 a0_4) := (blk_cell BK129.out 4).trans rfl
              have hcz24_5 : wc.cell? ⟨gb129, 5, none⟩ = some (.int .i64 a0_5) := (blk_cell BK129.out 5).trans rfl
              have hcz24_6 : wc.cell? ⟨gb129, 6, none⟩ = some (.slice A0_6 l0_6.length c0_6) := (blk_cell BK129.out 6).trans rfl
              have hcz24_7 : wc.cell? ⟨gb129, 7, none⟩ = some (.int .i64 a0_7) := (blk_cell BK129.out 7).trans rfl
              have hfz24_0 := blk_frozen BK129.out 0
              have hfz24_1 := blk_frozen BK129.out 1
              have hfz24_2 := blk_frozen BK129.out 2
              have hfz24_3 := blk_frozen BK129.out 3
              have hfz24_4 := blk_frozen BK129.out 4
              have hfz24_5 := blk_frozen BK129.out 5
              have hfz24_6 := blk_frozen BK129.out 6
              have hfz24_7 := blk_frozen BK129.out 7
              go_wp2
              go_meet
              case rel => exact ⟨_, ((a0_7 == 0)), (by first | rfl | (simp; done) | (simp [*]; done)), H', ⟨by have := HJ4.out; have := HJ13.out; first | omega | exact Nat.le_refl _⟩, ⟨by (with_reducible repeat (first | refine blk_drewN ?_ _ | refine blk_drew ?_ | refine blk_alloc ?_ _)); exact BK129.out⟩, ⟨by repeat (first | (with_reducible first | exact HB.out | apply below_alloc | apply pw_below_drewN | apply below_drew1 | refine below_set ?_ GE129.out) | exact HB.out)⟩⟩
            · replace c23 := Bool.eq_false_iff.mpr c23
              subst c23
              have H1 : (emenderref09_Check.j2 kj13 false a0_0 a0_1 a0_2 a0_3 a0_4 a0_5 l0_6 a0_7) = some r := by rw [if_neg (show ¬ (false = true) by decide)] at H; exact H
              clear H
              have H := H1
              clear H1
              have H' := Aside0.mk H
              clear H
              go_wp2
              go_meet
              case rel => exact ⟨_, (false), (by first | rfl | (simp; done) | (simp [*]; done)), H', ⟨by have := HJ4.out; have := HJ13.out; first | omega | exact Nat.le_refl _⟩, ⟨by (with_reducible repeat (first | refine blk_drewN ?_ _ | refine blk_drew ?_ | refine blk_alloc ?_ _)); exact BK129.out⟩, ⟨by repeat (first | (with_reducible first | exact HB.out | apply below_alloc | apply pw_below_drewN | apply below_drew1 | refine below_set ?_ GE129.out) | exact HB.out)⟩⟩
          · rw [if_neg c22] at H
            have c22b0 : (a0_0 == 0) = false := beq_eq_false_iff_ne.mpr c22
            have c22b1 : (a0_0 != 0) = true := bne_iff_ne.mpr c22
            (first | rw [c22b0] | (simp only [i64_w, i32_w]; rw [c22b0]) | skip)
            by_cases c25 : a0_0 = 1
            · rw [if_pos c25] at H
              have c25b0 : (a0_0 == 1) = true := beq_iff_eq.mpr c25
              have c25b1 : (a0_0 != 1) = false := bne_eq_false_iff_eq.mpr c25
              clear c25
              by_cases c26 : a0_1 ≤ a0_3
              · rw [if_pos c26] at H
                have c26b0 : decide (a0_1 ≤ a0_3) = true := decide_eq_true c26
                clear c26
                by_cases c27 : a0_3 < a0_4
                · rw [if_pos c27] at H
                  have c27b0 : decide (a0_3 < a0_4) = true := decide_eq_true c27
                  clear c27
                  by_cases c28 : a0_4 ≤ a0_2
                  · rw [if_pos c28] at H
                    have c28b0 : decide (a0_4 ≤ a0_2) = true := decide_eq_true c28
                    clear c28
                    by_cases c29 : a0_5 ≥ 0
                    · rw [if_pos c29] at H
                      have c29b0 : decide (0 ≤ a0_5) = true := decide_eq_true c29
                      clear c29
                      by_cases c30 : a0_5 ≤ (l0_6.length : Int)
                      · rw [if_pos c30] at H
                        have c30b0 : decide (a0_5 ≤ (l0_6.length : Int)) = true := decide_eq_true c30
                        clear c30
                        have H' := Aside0.mk H
                        clear H
                        have hcz31_0 : wc.cell? ⟨gb129, 0, none⟩ = some (.int .i64 a0_0) := (blk_cell BK129.out 0).trans rfl
                        have hcz31_1 : wc.cell? ⟨gb129, 1, none⟩ = some (.int .i64 a0_1) := (blk_cell BK129.out 1).trans rfl
                        have hcz31_2 : wc.cell? ⟨gb129, 2, none⟩ = some (.int .i64 a0_2) := (blk_cell BK129.out 2).trans rfl
                        have hcz31_3 : wc.cell? ⟨gb129, 3, none⟩ = some (.int .i64 a0_3) := (blk_cell BK129.out 3).trans rfl
                        have hcz31_4 : wc.cell? ⟨gb129, 4, none⟩ = some (.int .i64 a0_4) := (blk_cell BK129.out 4).trans rfl
                        have hcz31_5 : wc.cell? ⟨gb129, 5, none⟩ = some (.int .i64 a0_5) := (blk_cell BK129.out 5).trans rfl
                        have hcz31_6 : wc.cell? ⟨gb129, 6, none⟩ = some (.slice A0_6 l0_6.length c0_6) := (blk_cell BK129.out 6).trans rfl
                        have hcz31_7 : wc.cell? ⟨gb129, 7, none⟩ = some (.int .i64 a0_7) := (blk_cell BK129.out 7).trans rfl
                        have hfz31_0 := blk_frozen BK129.out 0
                        have hfz31_1 := blk_frozen BK129.out 1
                        have hfz31_2 := blk_frozen BK129.out 2
                        have hfz31_3 := blk_frozen BK129.out 3
                        have hfz31_4 := blk_frozen BK129.out 4
                        have hfz31_5 := blk_frozen BK129.out 5
                        have hfz31_6 := blk_frozen BK129.out 6
                        have hfz31_7 := blk_frozen BK129.out 7
                        go_wp2
                        go_meet
                        case rel => exact ⟨_, ((a0_7 == 0)), (by first | rfl | (simp; done) | (simp [*]; done)), H', ⟨by have := HJ4.out; have := HJ13.out; first | omega | exact Nat.le_refl _⟩, ⟨by (with_reducible repeat (first | refine blk_drewN ?_ _ | refine blk_drew ?_ | refine blk_alloc ?_ _)); exact BK129.out⟩, ⟨by repeat (first | (with_reducible first | exact HB.out | apply below_alloc | apply pw_below_drewN | apply below_drew1 | refine below_set ?_ GE129.out) | exact HB.out)⟩⟩
                      · rw [if_neg c30] at H
                        have c30b0 : decide (a0_5 ≤ (l0_6.length : Int)) = false := decide_eq_false c30
                        clear c30
                        have H' := Aside0.mk H
                        clear H
                        have hcz32_0 : wc.cell? ⟨gb129, 0, none⟩ = some (.int .i64 a0_0) := (blk_cell BK129.out 0).trans rfl
                        have hcz32_1 : wc.cell? ⟨gb129, 1, none⟩ = some (.int .i64 a0_1) := (blk_cell BK129.out 1).trans rfl
                        have hcz32_2 : wc.cell? ⟨gb129, 2, none⟩ = some (.int .i64 a0_2) := (blk_cell BK129.out 2).trans rfl
                        have hcz32_3 : wc.cell? ⟨gb129, 3, none⟩ = some (.int .i64 a0_3) := (blk_cell BK129.out 3).trans rfl
                        have hcz32_4 : wc.cell? ⟨gb129, 4, none⟩ = some (.int .i64 a0_4) := (blk_cell BK129.out 4).trans rfl
                        have hcz32_5 : wc.cell? ⟨gb129, 5, none⟩ = some (.int .i64 a0_5) := (blk_cell BK129.out 5).trans rfl
                        have hcz32_6 : wc.cell? ⟨gb129, 6, none⟩ = some (.slice A0_6 l0_6.length c0_6) := (blk_cell BK129.out 6).trans rfl
                        have hcz32_7 : wc.cell? ⟨gb129, 7, none⟩ = some (.int .i64 a0_7) := (blk_cell BK129.out 7).trans rfl
                        have hfz32_0 := blk_frozen BK129.out 0
                        have hfz32_1 := blk_frozen BK129.out 1
                        have hfz32_2 := blk_frozen BK129.out 2
                        have hfz32_3 := blk_frozen BK129.out 3
                        have hfz32_4 := blk_frozen BK129.out 4
                        have hfz32_5 := blk_frozen BK129.out 5
                        have hfz32_6 := blk_frozen BK129.out 6
                        have hfz32_7 := blk_frozen BK129.out 7
                        go_wp2
                        go_meet
                        case rel => exact ⟨_, (false), (by first | rfl | (simp; done) | (simp [*]; done)), H', ⟨by have := HJ4.out; have := HJ13.out; first | omega | exact Nat.le_refl _⟩, ⟨by (with_reducible repeat (first | refine blk_drewN ?_ _ | refine blk_drew ?_ | refine blk_alloc ?_ _)); exact BK129.out⟩, ⟨by repeat (first | (with_reducible first | exact HB.out | apply below_alloc | apply pw_below_drewN | apply below_drew1 | refine below_set ?_ GE129.out) | exact HB.out)⟩⟩
                    · rw [if_neg c29] at H
                      have c29b0 : decide (0 ≤ a0_5) = false := decide_eq_false c29
                      clear c29
                      have H' := Aside0.mk H
                      clear H
                      have hcz33_0 : wc.cell? ⟨gb129, 0, none⟩ = some (.int .i64 a0_0) := (blk_cell BK129.out 0).trans rfl
                      have hcz33_1 : wc.cell? ⟨gb129, 1, none⟩ = some (.int .i64 a0_1) := (blk_cell BK129.out 1).trans rfl
                      have hcz33_2 : wc.cell? ⟨gb129, 2, none⟩ = some (.int .i64 a0_2) := (blk_cell BK129.out 2).trans rfl
                      have hcz33_3 : wc.cell? ⟨gb129, 3, none⟩ = some (.int .i64 a0_3) := (blk_cell BK129.out 3).trans rfl
                      have hcz33_4 : wc.cell? ⟨gb129, 4, none⟩ = some (.int .i64 a0_4) := (blk_cell BK129.out 4).trans rfl
                      have hcz33_5 : wc.cell? ⟨gb129, 5, none⟩ = some (.int .i64 a0_5) := (blk_cell BK129.out 5).trans rfl
                      have hcz33_6 : wc.cell? ⟨gb129, 6, none⟩ = some (.slice A0_6 l0_6.length c0_6) := (blk_cell BK129.out 6).trans rfl
                      have hcz33_7 : wc.cell? ⟨gb129, 7, none⟩ = some (.int .i64 a0_7) := (blk_cell BK129.out 7).trans rfl
                      have hfz33_0 := blk_frozen BK129.out 0
                      have hfz33_1 := blk_frozen BK129.out 1
                      have hfz33_2 := blk_frozen BK129.out 2
                      have hfz33_3 := blk_frozen BK129.out 3
                      have hfz33_4 := blk_frozen BK129.out 4
                      have hfz33_5 := blk_frozen BK129.out 5
                      have hfz33_6 := blk_frozen BK129.out 6
                      have hfz33_7 := blk_frozen BK129.out 7
                      go_wp2
                      go_meet
                      case rel => exact ⟨_, (false), (by first | rfl | (simp; done) | (simp [*]; done)), H', ⟨by have := HJ4.out; have := HJ13.out; first | omega | exact Nat.le_refl _⟩, ⟨by (with_reducible repeat (first | refine blk_drewN ?_ _ | refine blk_drew ?_ | refine blk_alloc ?_ _)); exact BK129.out⟩, ⟨by repeat (first | (with_reducible first | exact HB.out | apply below_alloc | apply pw_below_drewN | apply below_drew1 | refine below_set ?_ GE129.out) | exact HB.out)⟩⟩
                  · rw [if_neg c28] at H
                    have c28b0 : decide (a0_4 ≤ a0_2) = false := decide_eq_false c28
                    clear c28
                    have H' := Aside0.mk H
                    clear H
                    have hcz34_0 : wc.cell? ⟨gb129, 0, none⟩ = some (.int .i64 a0_0) := (blk_cell BK129.out 0).trans rfl
                    have hcz34_1 : wc.cell? ⟨gb129, 1, none⟩ = some (.int .i64 a0_1) := (blk_cell BK129.out 1).trans rfl
                    have hcz34_2 : wc.cell? ⟨gb129, 2, none⟩ = some (.int .i64 a0_2) := (blk_cell BK129.out 2).trans rfl
                    have hcz34_3 : wc.cell? ⟨gb129, 3, none⟩ = some (.int .i64 a0_3) := (blk_cell BK129.out 3).trans rfl
                    have hcz34_4 : wc.cell? ⟨gb129, 4, none⟩ = some (.int .i64 a0_4) := (blk_cell BK129.out 4).trans rfl
                    have hcz34_5 : wc.cell? ⟨gb129, 5, none⟩ = some (.int .i64 a0_5) := (blk_cell BK129.out 5).trans rfl
                    have hcz34_6 : wc.cell? ⟨gb129, 6, none⟩ = some (.slice A0_6 l0_6.length c0_6) := (blk_cell BK129.out 6).trans rfl
                    have hcz34_7 : wc.cell? ⟨gb129, 7, none⟩ = some (.int .i64 a0_7) := (blk_cell BK129.out 7).trans rfl
                    have hfz34_0 := blk_frozen BK129.out 0
                    have hfz34_1 := blk_frozen BK129.out 1
                    have hfz34_2 := blk_frozen BK129.out 2
                    have hfz34_3 := blk_frozen BK129.out 3
                    have hfz34_4 := blk_frozen BK129.out 4
                    have hfz34_5 := blk_frozen BK129.out 5
                    have hfz34_6 := blk_frozen BK129.out 6
                    have hfz34_7 := blk_frozen BK129.out 7
                    go_wp2
                    go_meet
                    case rel => exact ⟨_, (false), (by first | rfl | (simp; done) | (simp [*]; done)), H', ⟨by have := HJ4.out; have := HJ13.out; first | omega | exact Nat.le_refl _⟩, ⟨by (with_reducible repeat (first | refine blk_drewN ?_ _ | refine blk_drew ?_ | refine blk_alloc ?_ _)); exact BK129.out⟩, ⟨by repeat (first | (with_reducible first | exact HB.out | apply below_alloc | apply pw_below_drewN | apply below_drew1 | refine below_set ?_ GE129.out) | exact HB.out)⟩⟩
                · rw [if_neg c27] at H
                  have c27b0 : decide (a0_3 < a0_4) = false := decide_eq_false c27
                  clear c27
                  have H' := Aside0.mk H
                  clear H
                  have hcz35_0 : wc.cell? ⟨gb129, 0, none⟩ = some (.int .i64 a0_0) := (blk_cell BK129.out 0).trans rfl
                  have hcz35_1 : wc.cell? ⟨gb129, 1, none⟩ = some (.int .i64 a0_1) := (blk_cell BK129.out 1).trans rfl
                  have hcz35_2 : wc.cell? ⟨gb129, 2, none⟩ = some (.int .i64 a0_2) := (blk_cell BK129.out 2).trans rfl
                  have hcz35_3 : wc.cell? ⟨gb129, 3, none⟩ = some (.int .i64 a0_3) := (blk_cell BK129.out 3).trans rfl
                  have hcz35_4 : wc.cell? ⟨gb129, 4, none⟩ = some (.int .i64 a0_4) := (blk_cell BK129.out 4).trans rfl
                  have hcz35_5 : wc.cell? ⟨gb129, 5, none⟩ = some (.int .i64 a0_5) := (blk_cell BK129.out 5).trans rfl
                  have hcz35_6 : wc.cell? ⟨gb129, 6, none⟩ = some (.slice A0_6 l0_6.length c0_6) := (blk_cell BK129.out 6).trans rfl
                  have hcz35_7 : wc.cell? ⟨gb129, 7, none⟩ = some (.int .i64 a0_7) := (blk_cell BK129.out 7).trans rfl
                  have hfz35_0 := blk_frozen BK129.out 0
                  have hfz35_1 := blk_frozen BK129.out 1
                  have hfz35_2 := blk_frozen BK129.out 2
                  have hfz35_3 := blk_frozen BK129.out 3
                  have hfz35_4 := blk_frozen BK129.out 4
                  have hfz35_5 := blk_frozen BK129.out 5
                  have hfz35_6 := blk_frozen BK129.out 6
                  have hfz35_7 := blk_frozen BK129.out 7
                  go_wp2
                  go_meet
                  case rel => exact ⟨_, (false), (by first | rfl | (simp; done) | (simp [*]; done)), H', ⟨by have := HJ4.out; have := HJ13.out; first | omega | exact Nat.le_refl _⟩, ⟨by (with_reducible repeat (first | refine blk_drewN ?_ _ | refine blk_drew ?_ | refine blk_alloc ?_ _)); exact BK129.out⟩, ⟨by repeat (first | (with_reducible first | exact HB.out | apply below_alloc | apply pw_below_drewN | apply below_drew1 | refine below_set ?_ GE129.out) | exact HB.out)⟩⟩
              · rw [if_neg c26] at H
                have c26b0 : decide (a0_1 ≤ a0_3) = false := decide_eq_false c26
                clear c26
                have H' := Aside0.mk H
                clear H
                have hcz36_0 : wc.cell? ⟨gb129, 0, none⟩ = some (.int .i64 a0_0) := (blk_cell BK129.out 0).trans rfl
                have hcz36_1 : wc.cell? ⟨gb129, 1, none⟩ = some (.int .i64 a0_1) := (blk_cell BK129.out 1).trans rfl
                have hcz36_2 : wc.cell? ⟨gb129, 2, none⟩ = some (.int .i64 a0_2) := (blk_cell BK129.out 2).trans rfl
                have hcz36_3 : wc.cell? ⟨gb129, 3, none⟩ = some (.int .i64 a0_3) := (blk_cell BK129.out 3).trans rfl
                have hcz36_4 : wc.cell? ⟨gb129, 4, none⟩ = some (.int .i64 a0_4) := (blk_cell BK129.out 4).trans rfl
                have hcz36_5 : wc.cell? ⟨gb129, 5, none⟩ = some (.int .i64 a0_5) := (blk_cell BK129.out 5).trans rfl
                have hcz36_6 : wc.cell? ⟨gb129, 6, none⟩ = some (.slice A0_6 l0_6.length c0_6) := (blk_cell BK129.out 6).trans rfl
                have hcz36_7 : wc.cell? ⟨gb129, 7, none⟩ = some (.int .i64 a0_7) := (blk_cell BK129.out 7).trans rfl
                have hfz36_0 := blk_frozen BK129.out 0
                have hfz36_1 := blk_frozen BK129.out 1
                have hfz36_2 := blk_frozen BK129.out 2
                have hfz36_3 := blk_frozen BK129.out 3
                have hfz36_4 := blk_frozen BK129.out 4
                have hfz36_5 := blk_frozen BK129.out 5
                have hfz36_6 := blk_frozen BK129.out 6
                have hfz36_7 := blk_frozen BK129.out 7
                go_wp2
                go_meet
                case rel => exact ⟨_, (false), (by first | rfl | (simp; done) | (simp [*]; done)), H', ⟨by have := HJ4.out; have := HJ13.out; first | omega | exact Nat.le_refl _⟩, ⟨by (with_reducible repeat (first | refine blk_drewN ?_ _ | refine blk_drew ?_ | refine blk_alloc ?_ _)); exact BK129.out⟩, ⟨by repeat (first | (with_reducible first | exact HB.out | apply below_alloc | apply pw_below_drewN | apply below_drew1 | refine below_set ?_ GE129.out) | exact HB.out)⟩⟩
            · rw [if_neg c25] at H
              have c25b0 : (a0_0 == 1) = false := beq_eq_false_iff_ne.mpr c25
              have c25b1 : (a0_0 != 1) = true := bne_iff_ne.mpr c25
              by_cases c37 : a0_0 = 2
              · rw [if_pos c37] at H
                have c37b0 : (a0_0 == 2) = true := beq_iff_eq.mpr c37
                have c37b1 : (a0_0 != 2) = false := bne_eq_false_iff_eq.mpr c37
                clear c37
                by_cases c38 : x3_13 = true
                · subst c38
                  have H1 : (if a0_1 < a0_2 then (if (l0_6.length : Int) = 0 then (if a0_7 = 1 then (emenderref09_Check.j2 kj13 true a0_0 a0_1 a0_2 a0_3 a0_4 a0_5 l0_6 a0_7) else (if a0_7 = 2 then (emenderref09_Check.j2 kj13 true a0_0 a0_1 a0_2 a0_3 a0_4 a0_5 l0_6 a0_7) else (emenderref09_Check.j2 kj13 (a0_7 == 4) a0_0 a0_1 a0_2 a0_3 a0_4 a0_5 l0_6 a0_7))) else (emenderref09_Check.j2 kj13 false a0_0 a0_1 a0_2 a0_3 a0_4 a0_5 l0_6 a0_7)) else (emenderref09_Check.j2 kj13 false a0_0 a0_1 a0_2 a0_3 a0_4 a0_5 l0_6 a0_7)) = some r := by rw [if_pos rfl] at H; exact H
                  clear H
                  have H := H1
                  clear H1
                  by_cases c39 : a0_1 < a0_2
                  · rw [if_pos c39] at H
                    have c39b0 : decide (a0_1 < a0_2) = true := decide_eq_true c39
                    clear c39
                    by_cases c40 : (l0_6.length : Int) = 0
                    · rw [if_pos c40] at H
                      have c40b0 : ((l0_6.length : Int) == 0) = true := beq_iff_eq.mpr c40
                      have c40b1 : ((l0_6.length : Int) != 0) = false := bne_eq_false_iff_eq.mpr c40
                      clear c40
                      by_cases c41 : a0_7 = 1
                      · rw [if_pos c41] at H
                        have c41b0 : (a0_7 == 1) = true := beq_iff_eq.mpr c41
                        have c41b1 : (a0_7 != 1) = false := bne_eq_false_iff_eq.mpr c41
                        clear c41
                        have H' := Aside0.mk H
                        clear H
                        have hcz42_0 : wc.cell? ⟨gb129, 0, none⟩ = some (.int .i64 a0_0) := (blk_cell BK129.out 0).trans rfl
                        have hcz42_1 : wc.cell? ⟨gb129, 1, none⟩ = some (.int .i64 a0_1) := (blk_cell BK129.out 1).trans rfl
                        have hcz42_2 : wc.cell? ⟨gb129, 2, none⟩ = some (.int .i64 a0_2) := (blk_cell BK129.out 2).trans rfl
                        have hcz42_3 : wc.cell? ⟨gb129, 3, none⟩ = some (.int .i64 a0_3) := (blk_cell BK129.out 3).trans rfl
                        have hcz42_4 : wc.cell? ⟨gb129, 4, none⟩ = some (.int .i64 a0_4) := (blk_cell BK129.out 4).trans rfl
                        have hcz42_5 : wc.cell? ⟨gb129, 5, none⟩ = some (.int .i64 a0_5) := (blk_cell BK129.out 5).trans rfl
                        have hcz42_6 : wc.cell? ⟨gb129, 6, none⟩ = some (.slice A0_6 l0_6.length c0_6) := (blk_cell BK129.out 6).trans rfl
                        have hcz42_7 : wc.cell? ⟨gb129, 7, none⟩ = some (.int .i64 a0_7) := (blk_cell BK129.out 7).trans rfl
                        have hfz42_0 := blk_frozen BK129.out 0
                        have hfz42_1 := blk_frozen BK129.out 1
                        have hfz42_2 := blk_frozen BK129.out 2
                        have hfz42_3 := blk_frozen BK129.out 3
                        have hfz42_4 := blk_frozen BK129.out 4
                        have hfz42_5 := blk_frozen BK129.out 5
                        have hfz42_6 := blk_frozen BK129.out 6
                        have hfz42_7 := blk_frozen BK129.out 7
                        go_wp2
                        go_meet
                        case rel => exact ⟨_, (true), (by first | rfl | (simp; done) | (simp [*]; done)), H', ⟨by have := HJ4.out; have := HJ13.out; first | omega | exact Nat.le_refl _⟩, ⟨by (with_reducible repeat (first | refine blk_drewN ?_ _ | refine blk_drew ?_ | refine blk_alloc ?_ _)); exact BK129.out⟩, ⟨by repeat (first | (with_reducible first | exact HB.out | apply below_alloc | apply pw_below_drewN | apply below_drew1 | refine below_set ?_ GE129.out) | exact HB.out)⟩⟩
                      · rw [if_neg c41] at H
                        have c41b0 : (a0_7 == 1) = false := beq_eq_false_iff_ne.mpr c41
                        have c41b1 : (a0_7 != 1) = true := bne_iff_ne.mpr c41
                        by_cases c43 : a0_7 = 2
                        · rw [if_pos c43] at H
                          have c43b0 : (a0_7 == 2) = true := beq_iff_eq.mpr c43
                          have c43b1 : (a0_7 != 2) = false := bne_eq_false_iff_eq.mpr c43
                          clear c43
                          have H' := Aside0.mk H
                          clear H
                          have hcz44_0 : wc.cell? ⟨gb129, 0, none⟩ = some (.int .i64 a0_0) := (blk_cell BK129.out 0).trans rfl
                          have hcz44_1 : wc.cell? ⟨gb129, 1, none⟩ = some (.int .i64 a0_1) := (blk_cell BK129.out 1).trans rfl
                          have hcz44_2 : wc.cell? ⟨gb129, 2, none⟩ = some (.int .i64 a0_2) := (blk_cell BK129.out 2).trans rfl
                          have hcz44_3 : wc.cell? ⟨gb129, 3, none⟩ = some (.int .i64 a0_3) := (blk_cell BK129.out 3).trans rfl
                          have hcz44_4 : wc.cell? ⟨gb129, 4, none⟩ = some (.int .i64 a0_4) := (blk_cell BK129.out 4).trans rfl
                          have hcz44_5 : wc.cell? ⟨gb129, 5, none⟩ = some (.int .i64 a0_5) := (blk_cell BK129.out 5).trans rfl
                          have hcz44_6 : wc.cell? ⟨gb129, 6, none⟩ = some (.slice A0_6 l0_6.length c0_6) := (blk_cell BK129.out 6).trans rfl
                          have hcz44_7 : wc.cell? ⟨gb129, 7, none⟩ = some (.int .i64 a0_7) := (blk_cell BK129.out 7).trans rfl
                          have hfz44_0 := blk_frozen BK129.out 0
                          have hfz44_1 := blk_frozen BK129.out 1
                          have hfz44_2 := blk_frozen BK129.out 2
                          have hfz44_3 := blk_frozen BK129.out 3
                          have hfz44_4 := blk_frozen BK129.out 4
                          have hfz44_5 := blk_frozen BK129.out 5
                          have hfz44_6 := blk_frozen BK129.out 6
                          have hfz44_7 := blk_frozen BK129.out 7
                          go_wp2
                          go_meet
                          case rel => exact ⟨_, (true), (by first | rfl | (simp; done) | (simp [*]; done)), H', ⟨by have := HJ4.out; have := HJ13.out; first | omega | exact Nat.le_refl _⟩, ⟨by (with_reducible repeat (first | refine blk_drewN ?_ _ | refine blk_drew ?_ | refine blk_alloc ?_ _)); exact BK129.out⟩, ⟨by repeat (first | (with_reducible first | exact HB.out | apply below_alloc | apply pw_below_drewN | apply below_drew1 | refine below_set ?_ GE129.out) | exact HB.out)⟩⟩
                        · rw [if_neg c43] at H
                          have c43b0 : (a0_7 == 2) = false := beq_eq_false_iff_ne.mpr c43
                          have c43b1 : (a0_7 != 2) = true := bne_iff_ne.mpr c43
                          have H' := Aside0.mk H
                          clear H
                          have hcz45_0 : wc.cell? ⟨gb129, 0, none⟩ = some (.int .i64 a0_0) := (blk_cell BK129.out 0).trans rfl
                          have hcz45_1 : wc.cell? ⟨gb129, 1, none⟩ = some (.int .i64 a0_1) := (blk_cell BK129.out 1).trans rfl
                          have hcz45_2 : wc.cell? ⟨gb129, 2, none⟩ = some (.int .i64 a0_2) := (blk_cell BK129.out 2).trans rfl
                          have hcz45_3 : wc.cell? ⟨gb129, 3, none⟩ = some (.int .i64 a0_3) := (blk_cell BK129.out 3).trans rfl
                          have hcz45_4 : wc.cell? ⟨gb129, 4, none⟩ = some (.int .i64 a0_4) := (blk_cell BK129.out 4).trans rfl
                          have hcz45_5 : wc.cell? ⟨gb129, 5, none⟩ = some (.int .i64 a0_5) := (blk_cell BK129.out 5).trans rfl
                          have hcz45_6 : wc.cell? ⟨gb129, 6, none⟩ = some (.slice A0_6 l0_6.length c0_6) := (blk_cell BK129.out 6).trans rfl
                          have hcz45_7 : wc.cell? ⟨gb129, 7, none⟩ = some (.int .i64 a0_7) := (blk_cell BK129.out 7).trans rfl
                          have hfz45_0 := blk_frozen BK129.out 0
                          have hfz45_1 := blk_frozen BK129.out 1
                          have hfz45_2 := blk_frozen BK129.out 2
                          have hfz45_3 := blk_frozen BK129.out 3
                          have hfz45_4 := blk_frozen BK129.out 4
                          have hfz45_5 := blk_frozen BK129.out 5
                          have hfz45_6 := blk_frozen BK129.out 6
                          have hfz45_7 := blk_frozen BK129.out 7
                          go_wp2
                          go_meet
                          case rel => exact ⟨_, ((a0_7 == 4)), (by first | rfl | (simp; done) | (simp [*]; done)), H', ⟨by have := HJ4.out; have := HJ13.out; first | omega | exact Nat.le_refl _⟩, ⟨by (with_reducible repeat (first | refine blk_drewN ?_ _ | refine blk_drew ?_ | refine blk_alloc ?_ _)); exact BK129.out⟩, ⟨by repeat (first | (with_reducible first | exact HB.out | apply below_alloc | apply pw_below_drewN | apply below_drew1 | refine below_set ?_ GE129.out) | exact HB.out)⟩⟩
                    · rw [if_neg c40] at H
                      have c40b0 : ((l0_6.length : Int) == 0) = false := beq_eq_false_iff_ne.mpr c40
                      have c40b1 : ((l0_6.length : Int) != 0) = true := bne_iff_ne.mpr c40
                      have c40b2 : ¬ (l0_6 = []) := fun h_ => c40 (by rw [h_]; rfl)
                      have H' := Aside0.mk H
                      clear H
                      have hcz46_0 : wc.cell? ⟨gb129, 0, none⟩ = some (.int .i64 a0_0) := (blk_cell BK129.out 0).trans rfl
                      have hcz46_1 : wc.cell? ⟨gb129, 1, none⟩ = some (.int .i64 a0_1) := (blk_cell BK129.out 1).trans rfl
                      have hcz46_2 : wc.cell? ⟨gb129, 2, none⟩ = some (.int .i64 a0_2) := (blk_cell BK129.out 2).trans rfl
                      have hcz46_3 : wc.cell? ⟨gb129, 3, none⟩ = some (.int .i64 a0_3) := (blk_cell BK129.out 3).trans rfl
                      have hcz46_4 : wc.cell? ⟨gb129, 4, none⟩ = some (.int .i64 a0_4) := (blk_cell BK129.out 4).trans rfl
                      have hcz46_5 : wc.cell? ⟨gb129, 5, none⟩ = some (.int .i64 a0_5) := (blk_cell BK129.out 5).trans rfl
                      have hcz46_6 : wc.cell? ⟨gb129, 6, none⟩ = some (.slice A0_6 l0_6.length c0_6) := (blk_cell BK129.out 6).trans rfl
                      have hcz46_7 : wc.cell? ⟨gb129, 7, none⟩ = some (.int .i64 a0_7) := (blk_cell BK129.out 7).trans rfl
                      have hfz46_0 := blk_frozen BK129.out 0
                      have hfz46_1 := blk_frozen BK129.out 1
                      have hfz46_2 := blk_frozen BK129.out 2
                      have hfz46_3 := blk_frozen BK129.out 3
                      have hfz46_4 := blk_frozen BK129.out 4
                      have hfz46_5 := blk_frozen BK129.out 5
                      have hfz46_6 := blk_frozen BK129.out 6
                      have hfz46_7 := blk_frozen BK129.out 7
                      go_wp2
                      go_meet
                      case rel => exact ⟨_, (false), (by first | rfl | (simp; done) | (simp [*]; done)), H', ⟨by have := HJ4.out; have := HJ13.out; first | omega | exact Nat.le_refl _⟩, ⟨by (with_reducible repeat (first | refine blk_drewN ?_ _ | refine blk_drew ?_ | refine blk_alloc ?_ _)); exact BK129.out⟩, ⟨by repeat (first | (with_reducible first | exact HB.out | apply below_alloc | apply pw_below_drewN | apply below_drew1 | refine below_set ?_ GE129.out) | exact HB.out)⟩⟩
                  · rw [if_neg c39] at H
                    have c39b0 : decide (a0_1 < a0_2) = false := decide_eq_false c39
                    clear c39
                    have H' := Aside0.mk H
                    clear H
                    have hcz47_0 : wc.cell? ⟨gb129, 0, none⟩ = some (.int .i64 a0_0) := (blk_cell BK129.out 0).trans rfl
                    have hcz47_1 : wc.cell? ⟨gb129, 1, none⟩ = some (.int .i64 a0_1) := (blk_cell BK129.out 1).trans rfl
                    have hcz47_2 : wc.cell? ⟨gb129, 2, none⟩ = some (.int .i64 a0_2) := (blk_cell BK129.out 2).trans rfl
                    have hcz47_3 : wc.cell? ⟨gb129, 3, none⟩ = some (.int .i64 a0_3) := (blk_cell BK129.out 3).trans rfl
                    have hcz47_4 : wc.cell? ⟨gb129, 4, none⟩ = some (.int .i64 a0_4) := (blk_cell BK129.out 4).trans rfl
                    have hcz47_5 : wc.cell? ⟨gb129, 5, none⟩ = some (.int .i64 a0_5) := (blk_cell BK129.out 5).trans rfl
                    have hcz47_6 : wc.cell? ⟨gb129, 6, none⟩ = some (.slice A0_6 l0_6.length c0_6) := (blk_cell BK129.out 6).trans rfl
                    have hcz47_7 : wc.cell? ⟨gb129, 7, none⟩ = some (.int .i64 a0_7) := (blk_cell BK129.out 7).trans rfl
                    have hfz47_0 := blk_frozen BK129.out 0
                    have hfz47_1 := blk_frozen BK129.out 1
                    have hfz47_2 := blk_frozen BK129.out 2
                    have hfz47_3 := blk_frozen BK129.out 3
                    have hfz47_4 := blk_frozen BK129.out 4
                    have hfz47_5 := blk_frozen BK129.out 5
                    have hfz47_6 := blk_frozen BK129.out 6
                    have hfz47_7 := blk_frozen BK129.out 7
                    go_wp2
                    go_meet
                    case rel => exact ⟨_, (false), (by first | rfl | (simp; done) | (simp [*]; done)), H', ⟨by have := HJ4.out; have := HJ13.out; first | omega | exact Nat.le_refl _⟩, ⟨by (with_reducible repeat (first | refine blk_drewN ?_ _ | refine blk_drew ?_ | refine blk_alloc ?_ _)); exact BK129.out⟩, ⟨by repeat (first | (with_reducible first | exact HB.out | apply below_alloc | apply pw_below_drewN | apply below_drew1 | refine below_set ?_ GE129.out) | exact HB.out)⟩⟩
                · replace c38 := Bool.eq_false_iff.mpr c38
                  subst c38
                  have H1 : (emenderref09_Check.j2 kj13 false a0_0 a0_1 a0_2 a0_3 a0_4 a0_5 l0_6 a0_7) = some r := by rw [if_neg (show ¬ (false = true) by decide)] at H; exact H
                  clear H
                  have H := H1
                  clear H1
                  have H' := Aside0.mk H
                  clear H
                  go_wp2
                  go_meet
                  case rel => exact ⟨_, (false), (by first | rfl | (simp; done) | (simp [*]; done)), H', ⟨by have := HJ4.out; have := HJ13.out; first | omega | exact Nat.le_refl _⟩, ⟨by (with_reducible repeat (first | refine blk_drewN ?_ _ | refine blk_drew ?_ | refine blk_alloc ?_ _)); exact BK129.out⟩, ⟨by repeat (first | (with_reducible first | exact HB.out | apply below_alloc | apply pw_below_drewN | apply below_drew1 | refine below_set ?_ GE129.out) | exact HB.out)⟩⟩
              · rw [if_neg c37] at H
                have c37b0 : (a0_0 == 2) = false := beq_eq_false_iff_ne.mpr c37
                have c37b1 : (a0_0 != 2) = true := bne_iff_ne.mpr c37
                by_cases c48 : a0_0 = 3
                · rw [if_pos c48] at H
                  have c48b0 : (a0_0 == 3) = true := beq_iff_eq.mpr c48
                  have c48b1 : (a0_0 != 3) = false := bne_eq_false_iff_eq.mpr c48
                  clear c48
                  by_cases c49 : x3_13 = true
                  · subst c49
                    have H1 : (if a0_1 < a0_2 then (if (l0_6.length : Int) = 0 then (if a0_7 = 1 then (emenderref09_Check.j2 kj13 true a0_0 a0_1 a0_2 a0_3 a0_4 a0_5 l0_6 a0_7) else (if a0_7 = 2 then (emenderref09_Check.j2 kj13 true a0_0 a0_1 a0_2 a0_3 a0_4 a0_5 l0_6 a0_7) else (emenderref09_Check.j2 kj13 (a0_7 == 4) a0_0 a0_1 a0_2 a0_3 a0_4 a0_5 l0_6 a0_7))) else (emenderref09_Check.j2 kj13 false a0_0 a0_1 a0_2 a0_3 a0_4 a0_5 l0_6 a0_7)) else (emenderref09_Check.j2 kj13 false a0_0 a0_1 a0_2 a0_3 a0_4 a0_5 l0_6 a0_7)) = some r := by rw [if_pos rfl] at H; exact H
                    clear H
                    have H := H1
                    clear H1
                    by_cases c50 : a0_1 < a0_2
                    · rw [if_pos c50] at H
                      have c50b0 : decide (a0_1 < a0_2) = true := decide_eq_true c50
                      clear c50
                      by_cases c51 : (l0_6.length : Int) = 0
                      · rw [if_pos c51] at H
                        have c51b0 : ((l0_6.length : Int) == 0) = true := beq_iff_eq.mpr c51
                        have c51b1 : ((l0_6.length : Int) != 0) = false := bne_eq_false_iff_eq.mpr c51
                        clear c51
                        by_cases c52 : a0_7 = 1
                        · rw [if_pos c52] at H
                          have c52b0 : (a0_7 == 1) = true := beq_iff_eq.mpr c52
                          have c52b1 : (a0_7 != 1) = false := bne_eq_false_iff_eq.mpr c52
                          clear c52
                          have H' := Aside0.mk H
                          clear H
                          have hcz53_0 : wc.cell? ⟨gb129, 0, none⟩ = some (.int .i64 a0_0) := (blk_cell BK129.out 0).trans rfl
                          have hcz53_1 : wc.cell? ⟨gb129, 1, none⟩ = some (.int .i64 a0_1) := (blk_cell BK129.out 1).trans rfl
                          have hcz53_2 : wc.cell? ⟨gb129, 2, none⟩ = some (.int .i64 a0_2) := (blk_cell BK129.out 2).trans rfl
                          have hcz53_3 : wc.cell? ⟨gb129, 3, none⟩ = some (.int .i64 a0_3) := (blk_cell BK129.out 3).trans rfl
                          have hcz53_4 : wc.cell? ⟨gb129, 4, none⟩ = some (.int .i64 a0_4) := (blk_cell BK129.out 4).trans rfl
                          have hcz53_5 : wc.cell? ⟨gb129, 5, none⟩ = some (.int .i64 a0_5) := (blk_cell BK129.out 5).trans rfl
                          have hcz53_6 : wc.cell? ⟨gb129, 6, none⟩ = some (.slice A0_6 l0_6.length c0_6) := (blk_cell BK129.out 6).trans rfl
                          have hcz53_7 : wc.cell? ⟨gb129, 7, none⟩ = some (.int .i64 a0_7) := (blk_cell BK129.out 7).trans rfl
                          have hfz53_0 := blk_frozen BK129.out 0
                          have hfz53_1 := blk_frozen BK129.out 1
                          have hfz53_2 := blk_frozen BK129.out 2
                          have hfz53_3 := blk_frozen BK129.out 3
                          have hfz53_4 := blk_frozen BK129.out 4
                          have hfz53_5 := blk_frozen BK129.out 5
                          have hfz53_6 := blk_frozen BK129.out 6
                          have hfz53_7 := blk_frozen BK129.out 7
                          go_wp2
                          go_meet
                          case rel => exact ⟨_, (true), (by first | rfl | (simp; done) | (simp [*]; done)), H', ⟨by have := HJ4.out; have := HJ13.out; first | omega | exact Nat.le_refl _⟩, ⟨by (with_reducible repeat (first | refine blk_drewN ?_ _ | refine blk_drew ?_ | refine blk_alloc ?_ _)); exact BK129.out⟩, ⟨by repeat (first | (with_reducible first | exact HB.out | apply below_alloc | apply pw_below_drewN | apply below_drew1 | refine below_set ?_ GE129.out) | exact HB.out)⟩⟩
                        · rw [if_neg c52] at H
                          have c52b0 : (a0_7 == 1) = false := beq_eq_false_iff_ne.mpr c52
                          have c52b1 : (a0_7 != 1) = true := bne_iff_ne.mpr c52
                          by_cases c54 : a0_7 = 2
                          · rw [if_pos c54] at H
                            have c54b0 : (a0_7 == 2) = true := beq_iff_eq.mpr c54
                            have c54b1 : (a0_7 != 2) = false := bne_eq_false_iff_eq.mpr c54
                            clear c54
                            have H' := Aside0.mk H
                            clear H
                            have hcz55_0 : wc.cell? ⟨gb129, 0, none⟩ = some (.int .i64 a0_0) := (blk_cell BK129.out 0).trans rfl
                            have hcz55_1 : wc.cell? ⟨gb129, 1, none⟩ = some (.int .i64 a0_1) := (blk_cell BK129.out 1).trans rfl
                            have hcz55_2 : wc.cell? ⟨gb129, 2, none⟩ = some (.int .i64 a0_2) := (blk_cell BK129.out 2).trans rfl
                            have hcz55_3 : wc.cell? ⟨gb129, 3, none⟩ = some (.int .i64 a0_3) := (blk_cell BK129.out 3).trans rfl
                            have hcz55_4 : wc.cell? ⟨gb129, 4, none⟩ = some (.int .i64 a0_4) := (blk_cell BK129.out 4).trans rfl
                            have hcz55_5 : wc.cell? ⟨gb129, 5, none⟩ = some (.int .i64 a0_5) := (blk_cell BK129.out 5).trans rfl
                            have hcz55_6 : wc.cell? ⟨gb129, 6, none⟩ = some (.slice A0_6 l0_6.length c0_6) := (blk_cell BK129.out 6).trans rfl
                            have hcz55_7 : wc.cell? ⟨gb129, 7, none⟩ = some (.int .i64 a0_7) := (blk_cell BK129.out 7).trans rfl
                            have hfz55_0 := blk_frozen BK129.out 0
                            have hfz55_1 := blk_frozen BK129.out 1
                            have hfz55_2 := blk_frozen BK129.out 2
                            have hfz55_3 := blk_frozen BK129.out 3
                            have hfz55_4 := blk_frozen BK129.out 4
                            have hfz55_5 := blk_frozen BK129.out 5
                            have hfz55_6 := blk_frozen BK129.out 6
                            have hfz55_7 := blk_frozen BK129.out 7
                            go_wp2
                            go_meet
                            case rel => exact ⟨_, (true), (by first | rfl | (simp; done) | (simp [*]; done)), H', ⟨by have := HJ4.out; have := HJ13.out; first | omega | exact Nat.le_refl _⟩, ⟨by (with_reducible repeat (first | refine blk_drewN ?_ _ | refine blk_drew ?_ | refine blk_alloc ?_ _)); exact BK129.out⟩, ⟨by repeat (first | (with_reducible first | exact HB.out | apply below_alloc | apply pw_below_drewN | apply below_drew1 | refine below_set ?_ GE129.out) | exact HB.out)⟩⟩
                          · rw [if_neg c54] at H
                            have c54b0 : (a0_7 == 2) = false := beq_eq_false_iff_ne.mpr c54
                            have c54b1 : (a0_7 != 2) = true := bne_iff_ne.mpr c54
                            have H' := Aside0.mk H
                            clear H
                            have hcz56_0 : wc.cell? ⟨gb129, 0, none⟩ = some (.int .i64 a0_0) := (blk_cell BK129.out 0).trans rfl
                            have hcz56_1 : wc.cell? ⟨gb129, 1, none⟩ = some (.int .i64 a0_1) := (blk_cell BK129.out 1).trans rfl
                            have hcz56_2 : wc.cell? ⟨gb129, 2, none⟩ = some (.int .i64 a0_2) := (blk_cell BK129.out 2).trans rfl
                            have hcz56_3 : wc.cell? ⟨gb129, 3, none⟩ = some (.int .i64 a0_3) := (blk_cell BK129.out 3).trans rfl
                            have hcz56_4 : wc.cell? ⟨gb129, 4, none⟩ = some (.int .i64 a0_4) := (blk_cell BK129.out 4).trans rfl
                            have hcz56_5 : wc.cell? ⟨gb129, 5, none⟩ = some (.int .i64 a0_5) := (blk_cell BK129.out 5).trans rfl
                            have hcz56_6 : wc.cell? ⟨gb129, 6, none⟩ = some (.slice A0_6 l0_6.length c0_6) := (blk_cell BK129.out 6).trans rfl
                            have hcz56_7 : wc.cell? ⟨gb129, 7, none⟩ = some (.int .i64 a0_7) := (blk_cell BK129.out 7).trans rfl
                            have hfz56_0 := blk_frozen BK129.out 0
                            have hfz56_1 := blk_frozen BK129.out 1
                            have hfz56_2 := blk_frozen BK129.out 2
                            have hfz56_3 := blk_frozen BK129.out 3
                            have hfz56_4 := blk_frozen BK129.out 4
                            have hfz56_5 := blk_frozen BK129.out 5
                            have hfz56_6 := blk_frozen BK129.out 6
                            have hfz56_7 := blk_frozen BK129.out 7
                            go_wp2
                            go_meet
                            case rel => exact ⟨_, ((a0_7 == 4)), (by first | rfl | (simp; done) | (simp [*]; done)), H', ⟨by have := HJ4.out; have := HJ13.out; first | omega | exact Nat.le_refl _⟩, ⟨by (with_reducible repeat (first | refine blk_drewN ?_ _ | refine blk_drew ?_ | refine blk_alloc ?_ _)); exact BK129.out⟩, ⟨by repeat (first | (with_reducible first | exact HB.out | apply below_alloc | apply pw_below_drewN | apply below_drew1 | refine below_set ?_ GE129.out) | exact HB.out)⟩⟩
                      · rw [if_neg c51] at H
                        have c51b0 : ((l0_6.length : Int) == 0) = false := beq_eq_false_iff_ne.mpr c51
                        have c51b1 : ((l0_6.length : Int) != 0) = true := bne_iff_ne.mpr c51
                        have c51b2 : ¬ (l0_6 = []) := fun h_ => c51 (by rw [h_]; rfl)
                        have H' := Aside0.mk H
                        clear H
                        have hcz57_0 : wc.cell? ⟨gb129, 0, none⟩ = some (.int .i64 a0_0) := (blk_cell BK129.out 0).trans rfl
                        have hcz57_1 : wc.cell? ⟨gb129, 1, none⟩ = some (.int .i64 a0_1) := (blk_cell BK129.out 1).trans rfl
                        have hcz57_2 : wc.cell? ⟨gb129, 2, none⟩ = some (.int .i64 a0_2) := (blk_cell BK129.out 2).trans rfl
                        have hcz57_3 : wc.cell? ⟨gb129, 3, none⟩ = some (.int .i64 a0_3) := (blk_cell BK129.out 3).trans rfl
                        have hcz57_4 : wc.cell? ⟨gb129, 4, none⟩ = some (.int .i64 a0_4) := (blk_cell BK129.out 4).trans rfl
                        have hcz57_5 : wc.cell? ⟨gb129, 5, none⟩ = some (.int .i64 a0_5) := (blk_cell BK129.out 5).trans rfl
                        have hcz57_6 : wc.cell? ⟨gb129, 6, none⟩ = some (.slice A0_6 l0_6.length c0_6) := (blk_cell BK129.out 6).trans rfl
                        have hcz57_7 : wc.cell? ⟨gb129, 7, none⟩ = some (.int .i64 a0_7) := (blk_cell BK129.out 7).trans rfl
                        have hfz57_0 := blk_frozen BK129.out 0
                        have hfz57_1 := blk_frozen BK129.out 1
                        have hfz57_2 := blk_frozen BK129.out 2
                        have hfz57_3 := blk_frozen BK129.out 3
                        have hfz57_4 := blk_frozen BK129.out 4
                        have hfz57_5 := blk_frozen BK129.out 5
                        have hfz57_6 := blk_frozen BK129.out 6
                        have hfz57_7 := blk_frozen BK129.out 7
                        go_wp2
                        go_meet
                        case rel => exact ⟨_, (false), (by first | rfl | (simp; done) | (simp [*]; done)), H', ⟨by have := HJ4.out; have := HJ13.out; first | omega | exact Nat.le_refl _⟩, ⟨by (with_reducible repeat (first | refine blk_drewN ?_ _ | refine blk_drew ?_ | refine blk_alloc ?_ _)); exact BK129.out⟩, ⟨by repeat (first | (with_reducible first | exact HB.out | apply below_alloc | apply pw_below_drewN | apply below_drew1 | refine below_set ?_ GE129.out) | exact HB.out)⟩⟩
                    · rw [if_neg c50] at H
                      have c50b0 : decide (a0_1 < a0_2) = false := decide_eq_false c50
                      clear c50
                      have H' := Aside0.mk H
                      clear H
                      have hcz58_0 : wc.cell? ⟨gb129, 0, none⟩ = some (.int .i64 a0_0) := (blk_cell BK129.out 0).trans rfl
                      have hcz58_1 : wc.cell? ⟨gb129, 1, none⟩ = some (.int .i64 a0_1) := (blk_cell BK129.out 1).trans rfl
                      have hcz58_2 : wc.cell? ⟨gb129, 2, none⟩ = some (.int .i64 a0_2) := (blk_cell BK129.out 2).trans rfl
                      have hcz58_3 : wc.cell? ⟨gb129, 3, none⟩ = some (.int .i64 a0_3) := (blk_cell BK129.out 3).trans rfl
                      have hcz58_4 : wc.cell? ⟨gb129, 4, none⟩ = some (.int .i64 a0_4) := (blk_cell BK129.out 4).trans rfl
                      have hcz58_5 : wc.cell? ⟨gb129, 5, none⟩ = some (.int .i64 a0_5) := (blk_cell BK129.out 5).trans rfl
                      have hcz58_6 : wc.cell? ⟨gb129, 6, none⟩ = some (.slice A0_6 l0_6.length c0_6) := (blk_cell BK129.out 6).trans rfl
                      have hcz58_7 : wc.cell? ⟨gb129, 7, none⟩ = some (.int .i64 a0_7) := (blk_cell BK129.out 7).trans rfl
                      have hfz58_0 := blk_frozen BK129.out 0
                      have hfz58_1 := blk_frozen BK129.out 1
                      have hfz58_2 := blk_frozen BK129.out 2
                      have hfz58_3 := blk_frozen BK129.out 3
                      have hfz58_4 := blk_frozen BK129.out 4
                      have hfz58_5 := blk_frozen BK129.out 5
                      have hfz58_6 := blk_frozen BK129.out 6
                      have hfz58_7 := blk_frozen BK129.out 7
                      go_wp2
                      go_meet
                      case rel => exact ⟨_, (false), (by first | rfl | (simp; done) | (simp [*]; done)), H', ⟨by have := HJ4.out; have := HJ13.out; first | omega | exact Nat.le_refl _⟩, ⟨by (with_reducible repeat (first | refine blk_drewN ?_ _ | refine blk_drew ?_ | refine blk_alloc ?_ _)); exact BK129.out⟩, ⟨by repeat (first | (with_reducible first | exact HB.out | apply below_alloc | apply pw_below_drewN | apply below_drew1 | refine below_set ?_ GE129.out) | exact HB.out)⟩⟩
                  · replace c49 := Bool.eq_false_iff.mpr c49
                    subst c49
                    have H1 : (emenderref09_Check.j2 kj13 false a0_0 a0_1 a0_2 a0_3 a0_4 a0_5 l0_6 a0_7) = some r := by rw [if_neg (show ¬ (false = true) by decide)] at H; exact H
                    clear H
                    have H := H1
                    clear H1
                    have H' := Aside0.mk H
                    clear H
                    go_wp2
                    go_meet
                    case rel => exact ⟨_, (false), (by first | rfl | (simp; done) | (simp [*]; done)), H', ⟨by have := HJ4.out; have := HJ13.out; first | omega | exact Nat.le_refl _⟩, ⟨by (with_reducible repeat (first | refine blk_drewN ?_ _ | refine blk_drew ?_ | refine blk_alloc ?_ _)); exact BK129.out⟩, ⟨by repeat (first | (with_reducible first | exact HB.out | apply below_alloc | apply pw_below_drewN | apply below_drew1 | refine below_set ?_ GE129.out) | exact HB.out)⟩⟩
                · rw [if_neg c48] at H
                  have c48b0 : (a0_0 == 3) = false := beq_eq_false_iff_ne.mpr c48
                  have c48b1 : (a0_0 != 3) = true := bne_iff_ne.mpr c48
                  have H' := Aside0.mk H
                  clear H
                  go_wp2
                  go_meet
                  case rel => exact ⟨_, (false), (by first | rfl | (simp; done) | (simp [*]; done)), H', ⟨by have := HJ4.out; have := HJ13.out; first | omega | exact Nat.le_refl _⟩, ⟨by (with_reducible repeat (first | refine blk_drewN ?_ _ | refine blk_drew ?_ | refine blk_alloc ?_ _)); exact BK129.out⟩, ⟨by repeat (first | (with_reducible first | exact HB.out | apply below_alloc | apply pw_below_drewN | apply below_drew1 | refine below_set ?_ GE129.out) | exact HB.out)⟩⟩
         case rest =>
          clear HC20
          try clear c2
          try clear p2
          try clear c3
          try clear c4
          try clear c5
          try clear c22
          try clear c22b0
          try clear c22b1
          try clear c23
          try clear c25
          try clear c25b0
          try clear c25b1
          try clear c26
          try clear c26b0
          try clear c27
          try clear c27b0
          try clear c28
          try clear c28b0
          try clear c29
          try clear c29b0
          try clear c30
          try clear c30b0
          try clear c37
          try clear c37b0
          try clear c37b1
          try clear c38
          try clear c39
          try clear c39b0
          try clear c40
          try clear c40b0
          try clear c40b1
          try clear c40b2
          try clear c41
          try clear c41b0
          try clear c41b1
          try clear c43
          try clear c43b0
          try clear c43b1
          try clear c48
          try clear c48b0
          try clear c48b1
          try clear c49
          try clear c50
          try clear c50b0
          try clear c51
          try clear c51b0
          try clear c51b1
          try clear c51b2
          try clear c52
          try clear c52b0
          try clear c52b1
          try clear c54
          try clear c54b0
          try clear c54b1
          try clear hcz21_0
          try clear hcz21_1
          try clear hcz21_2
          try clear hcz21_3
          try clear hcz21_4
          try clear hcz21_5
          try clear hcz21_6
          try clear hcz21_7
          try clear hcz24_0
          try clear hcz24_1
          try clear hcz24_2
          try clear hcz24_3
          try clear hcz24_4
          try clear hcz24_5
          try clear hcz24_6
          try clear hcz24_7
          try clear hcz31_0
          try clear hcz31_1
          try clear hcz31_2
          try clear hcz31_3
          try clear hcz31_4
          try clear hcz31_5
          try clear hcz31_6
          try clear hcz31_7
          try clear hcz32_0
          try clear hcz32_1
          try clear hcz32_2
          try clear hcz32_3
          try clear hcz32_4
          try clear hcz32_5
          try clear hcz32_6
          try clear hcz32_7
          try clear hcz33_0
          try clear hcz33_1
          try clear hcz33_2
          try clear hcz33_3
          try clear hcz33_4
          try clear hcz33_5
          try clear hcz33_6
          try clear hcz33_7
          try clear hcz34_0
          try clear hcz34_1
          try clear hcz34_2
          try clear hcz34_3
          try clear hcz34_4
          try clear hcz34_5
          try clear hcz34_6
          try clear hcz34_7
          try clear hcz35_0
          try clear hcz35_1
          try clear hcz35_2
          try clear hcz35_3
          try clear hcz35_4
          try clear hcz35_5
          try clear hcz35_6
          try clear hcz35_7
          try clear hcz36_0
          try clear hcz36_1
          try clear hcz36_2
          try clear hcz36_3
          try clear hcz36_4
          try clear hcz36_5
          try clear hcz36_6
          try clear hcz36_7
          try clear hcz42_0
          try clear hcz42_1
          try clear hcz42_2
          try clear hcz42_3
          try clear hcz42_4
          try clear hcz42_5
          try clear hcz42_6
          try clear hcz42_7
          try clear hcz44_0
          try clear hcz44_1
          try clear hcz44_2
          try clear hcz44_3
          try clear hcz44_4
          try clear hcz44_5
          try clear hcz44_6
          try clear hcz44_7
          try clear hcz45_0
          try clear hcz45_1
          try clear hcz45_2
          try clear hcz45_3
          try clear hcz45_4
          try clear hcz45_5
          try clear hcz45_6
          try clear hcz45_7
          try clear hcz46_0
          try clear hcz46_1
          try clear hcz46_2
          try clear hcz46_3
          try clear hcz46_4
          try clear hcz46_5
          try clear hcz46_6
          try clear hcz46_7
          try clear hcz47_0
          try clear hcz47_1
          try clear hcz47_2
          try clear hcz47_3
          try clear hcz47_4
          try clear hcz47_5
          try clear hcz47_6
          try clear hcz47_7
          try clear hcz53_0
          try clear hcz53_1
          try clear hcz53_2
          try clear hcz53_3
          try clear hcz53_4
          try clear hcz53_5
          try clear hcz53_6
          try clear hcz53_7
          try clear hcz55_0
          try clear hcz55_1
          try clear hcz55_2
          try clear hcz55_3
          try clear hcz55_4
          try clear hcz55_5
          try clear hcz55_6
          try clear hcz55_7
          try clear hcz56_0
          try clear hcz56_1
          try clear hcz56_2
          try clear hcz56_3
          try clear hcz56_4
          try clear hcz56_5
          try clear hcz56_6
          try clear hcz56_7
          try clear hcz57_0
          try clear hcz57_1
          try clear hcz57_2
          try clear hcz57_3
          try clear hcz57_4
          try clear hcz57_5
          try clear hcz57_6
          try clear hcz57_7
          try clear hcz58_0
          try clear hcz58_1
          try clear hcz58_2
          try clear hcz58_3
          try clear hcz58_4
          try clear hcz58_5
          try clear hcz58_6
          try clear hcz58_7
          try clear hfz21_0
          try clear hfz21_1
          try clear hfz21_2
          try clear hfz21_3
          try clear hfz21_4
          try clear hfz21_5
          try clear hfz21_6
          try clear hfz21_7
          try clear hfz24_0
          try clear hfz24_1
          try clear hfz24_2
          try clear hfz24_3
          try clear hfz24_4
          try clear hfz24_5
          try clear hfz24_6
          try clear hfz24_7
          try clear hfz31_0
          try clear hfz31_1
          try clear hfz31_2
          try clear hfz31_3
          try clear hfz31_4
          try clear hfz31_5
          try clear hfz31_6
          try clear hfz31_7
          try clear hfz32_0
          try clear hfz32_1
          try clear hfz32_2
          try clear hfz32_3
          try clear hfz32_4
          try clear hfz32_5
          try clear hfz32_6
          try clear hfz32_7
          try clear hfz33_0
          try clear hfz33_1
          try clear hfz33_2
          try clear hfz33_3
          try clear hfz33_4
          try clear hfz33_5
          try clear hfz33_6
          try clear hfz33_7
          try clear hfz34_0
          try clear hfz34_1
          try clear hfz34_2
          try clear hfz34_3
          try clear hfz34_4
          try clear hfz34_5
          try clear hfz34_6
          try clear hfz34_7
          try clear hfz35_0
          try clear hfz35_1
          try clear hfz35_2
          try clear hfz35_3
          try clear hfz35_4
          try clear hfz35_5
          try clear hfz35_6
          try clear hfz35_7
          try clear hfz36_0
          try clear hfz36_1
          try clear hfz36_2
          try clear hfz36_3
          try clear hfz36_4
          try clear hfz36_5
          try clear hfz36_6
          try clear hfz36_7
          try clear hfz42_0
          try clear hfz42_1
          try clear hfz42_2
          try clear hfz42_3
          try clear hfz42_4
          try clear hfz42_5
          try clear hfz42_6
          try clear hfz42_7
          try clear hfz44_0
          try clear hfz44_1
          try clear hfz44_2
          try clear hfz44_3
          try clear hfz44_4
          try clear hfz44_5
          try clear hfz44_6
          try clear hfz44_7
          try clear hfz45_0
          try clear hfz45_1
          try clear hfz45_2
          try clear hfz45_3
          try clear hfz45_4
          try clear hfz45_5
          try clear hfz45_6
          try clear hfz45_7
          try clear hfz46_0
          try clear hfz46_1
          try clear hfz46_2
          try clear hfz46_3
          try clear hfz46_4
          try clear hfz46_5
          try clear hfz46_6
          try clear hfz46_7
          try clear hfz47_0
          try clear hfz47_1
          try clear hfz47_2
          try clear hfz47_3
          try clear hfz47_4
          try clear hfz47_5
          try clear hfz47_6
          try clear hfz47_7
          try clear hfz4_3
          try clear hfz4_4
          try clear hfz4_5
          try clear hfz4_6
          try clear hfz4_7
          try clear hfz53_0
          try clear hfz53_1
          try clear hfz53_2
          try clear hfz53_3
          try clear hfz53_4
          try clear hfz53_5
          try clear hfz53_6
          try clear hfz53_7
          try clear hfz55_0
          try clear hfz55_1
          try clear hfz55_2
          try clear hfz55_3
          try clear hfz55_4
          try clear hfz55_5
          try clear hfz55_6
          try clear hfz55_7
          try clear hfz56_0
          try clear hfz56_1
          try clear hfz56_2
          try clear hfz56_3
          try clear hfz56_4
          try clear hfz56_5
          try clear hfz56_6
          try clear hfz56_7
          try clear hfz57_0
          try clear hfz57_1
          try clear hfz57_2
          try clear hfz57_3
          try clear hfz57_4
          try clear hfz57_5
          try clear hfz57_6
          try clear hfz57_7
          try clear hfz58_0
          try clear hfz58_1
          try clear hfz58_2
          try clear hfz58_3
          try clear hfz58_4
          try clear hfz58_5
          try clear hfz58_6
          try clear hfz58_7
          try clear hfz7_0
          try clear hfz7_1
          try clear hfz7_2
          try clear hfz7_3
          try clear hfz7_4
          try clear hfz7_5
          try clear hfz7_6
          try clear hfz7_7
          try clear hfz9_0
          try clear hfz9_1
          try clear hfz9_2
          try clear hfz9_3
          try clear hfz9_4
          try clear hfz9_5
          try clear hfz9_6
          try clear hfz9_7
          try clear p2
          obtain ⟨kq, x4_19, rfl, HA, HJ19, BK129, HB⟩ := hcut
          cases kq with
          | zero => exact absurd HA.out (by simp [emenderref09_Check.j2])
          | succ kj19 =>
           have H := HA.out
           clear HA
           simp only [emenderref09_Check.j2] at H
           have H' := Aside0.mk H
           clear H
           go_wp2
           go_loopg [4, 5] kj19 (fun kq v4 v5 w' => ∃ (x4_4 : Bool) (x5_4 : Int), v4 = .bool x4_4 ∧ v5 = .int .i64 x5_4 ∧ Aside0 (emenderref09_Check.l0 kq x4_4 x5_4 a0_0 a0_1 a0_2 a0_3 a0_4 a0_5 l0_6 a0_7 = some r) ∧ Aside0 (kq ≤ kj19) ∧ Aside0 (w'.heap[gb129]? = some (.cells #[.int .i64 a0_0, .int .i64 a0_1, .int .i64 a0_2, .int .i64 a0_3, .int .i64 a0_4, .int .i64 a0_5, (.slice A0_6 l0_6.length c0_6), .int .i64 a0_7] 24 (0, 0))) ∧ Aside0 (Below w.heap.size w w'))
           case atStart => exact ⟨(x4_19), (0), (by first | rfl | (simp; done) | (simp [*]; done)), (by first | rfl | (simp; done) | (simp [*]; done)), H', ⟨Nat.le_refl _⟩, ⟨by (with_reducible repeat (first | refine blk_drewN ?_ _ | refine blk_drew ?_ | refine blk_alloc ?_ _)); exact BK129.out⟩, ⟨by repeat (first | (with_reducible first | exact HB.out | apply below_alloc | apply pw_below_drewN | apply below_drew1 | refine below_set ?_ GE129.out) | exact HB.out)⟩⟩
           case round =>
            clear H'
            try clear c2
            try clear p2
            try clear c3
            try clear c4
            try clear c5
            try clear c22
            try clear c22b0
            try clear c22b1
            try clear c23
            try clear c25
            try clear c25b0
            try clear c25b1
            try clear c26
            try clear c26b0
            try clear c27
            try clear c27b0
            try clear c28
            try clear c28b0
            try clear c29
            try clear c29b0
            try clear c30
            try clear c30b0
            try clear c37
            try clear c37b0
            try clear c37b1
            try clear c38
            try clear c39
            try clear c39b0
            try clear c40
            try clear c40b0
            try clear c40b1
            try clear c40b2
            try clear c41
            try clear c41b0
            try clear c41b1
            try clear c43
            try clear c43b0
            try clear c43b1
            try clear c48
            try clear c48b0
            try clear c48b1
            try clear c49
            try clear c50
            try clear c50b0
            try clear c51
            try clear c51b0
            try clear c51b1
            try clear c51b2
            try clear c52
            try clear c52b0
            try clear c52b1
            try clear c54
            try clear c54b0
            try clear c54b1
            try clear hcz21_0
            try clear hcz21_1
            try clear hcz21_2
            try clear hcz21_3
            try clear hcz21_4
            try clear hcz21_5
            try clear hcz21_6
            try clear hcz21_7
            try clear hcz24_0
            try clear hcz24_1
            try clear hcz24_2
            try clear hcz24_3
            try clear hcz24_4
            try clear hcz24_5
            try clear hcz24_6
            try clear hcz24_7
            try clear hcz31_0
            try clear hcz31_1
            try clear hcz31_2
            try clear hcz31_3
            try clear hcz31_4
            try clear hcz31_5
            try clear hcz31_6
            try clear hcz31_7
            try clear hcz32_0
            try clear hcz32_1
            try clear hcz32_2
            try clear hcz32_3
            try clear hcz32_4
            try clear hcz32_5
            try clear hcz32_6
            try clear hcz32_7
            try clear hcz33_0
            try clear hcz33_1
            try clear hcz33_2
            try clear hcz33_3
            try clear hcz33_4
            try clear hcz33_5
            try clear hcz33_6
            try clear hcz33_7
            try clear hcz34_0
            try clear hcz34_1
            try clear hcz34_2
            try clear hcz34_3
            try clear hcz34_4
            try clear hcz34_5
            try clear hcz34_6
            try clear hcz34_7
            try clear hcz35_0
            try clear hcz35_1
            try clear hcz35_2
            try clear hcz35_3
            try clear hcz35_4
            try clear hcz35_5
            try clear hcz35_6
            try clear hcz35_7
            try clear hcz36_0
            try clear hcz36_1
            try clear hcz36_2
            try clear hcz36_3
            try clear hcz36_4
            try clear hcz36_5
            try clear hcz36_6
            try clear hcz36_7
            try clear hcz42_0
            try clear hcz42_1
            try clear hcz42_2
            try clear hcz42_3
            try clear hcz42_4
            try clear hcz42_5
            try clear hcz42_6
            try clear hcz42_7
            try clear hcz44_0
            try clear hcz44_1
            try clear hcz44_2
            try clear hcz44_3
            try clear hcz44_4
            try clear hcz44_5
            try clear hcz44_6
            try clear hcz44_7
            try clear hcz45_0
            try clear hcz45_1
            try clear hcz45_2
            try clear hcz45_3
            try clear hcz45_4
            try clear hcz45_5
            try clear hcz45_6
            try clear hcz45_7
            try clear hcz46_0
            try clear hcz46_1
            try clear hcz46_2
            try clear hcz46_3
            try clear hcz46_4
            try clear hcz46_5
            try clear hcz46_6
            try clear hcz46_7
            try clear hcz47_0
            try clear hcz47_1
            try clear hcz47_2
            try clear hcz47_3
            try clear hcz47_4
            try clear hcz47_5
            try clear hcz47_6
            try clear hcz47_7
            try clear hcz53_0
            try clear hcz53_1
            try clear hcz53_2
            try clear hcz53_3
            try clear hcz53_4
            try clear hcz53_5
            try clear hcz53_6
            try clear hcz53_7
            try clear hcz55_0
            try clear hcz55_1
            try clear hcz55_2
            try clear hcz55_3
            try clear hcz55_4
            try clear hcz55_5
            try clear hcz55_6
            try clear hcz55_7
            try clear hcz56_0
            try clear hcz56_1
            try clear hcz56_2
            try clear hcz56_3
            try clear hcz56_4
            try clear hcz56_5
            try clear hcz56_6
            try clear hcz56_7
            try clear hcz57_0
            try clear hcz57_1
            try clear hcz57_2
            try clear hcz57_3
            try clear hcz57_4
            try clear hcz57_5
            try clear hcz57_6
            try clear hcz57_7
            try clear hcz58_0
            try clear hcz58_1
            try clear hcz58_2
            try clear hcz58_3
            try clear hcz58_4
            try clear hcz58_5
            try clear hcz58_6
            try clear hcz58_7
            try clear hfz21_0
            try clear hfz21_1
            try clear hfz21_2
            try clear hfz21_3
            try clear hfz21_4
            try clear hfz21_5
            try clear hfz21_6
            try clear hfz21_7
            try clear hfz24_0
            try clear hfz24_1
            try clear hfz24_2
            try clear hfz24_3
            try clear hfz24_4
            try clear hfz24_5
            try clear hfz24_6
            try clear hfz24_7
            try clear hfz31_0
            try clear hfz31_1
            try clear hfz31_2
            try clear hfz31_3
            try clear hfz31_4
            try clear hfz31_5
            try clear hfz31_6
            try clear hfz31_7
            try clear hfz32_0
            try clear hfz32_1
            try clear hfz32_2
            try clear hfz32_3
            try clear hfz32_4
            try clear hfz32_5
            try clear hfz32_6
            try clear hfz32_7
            try clear hfz33_0
            try clear hfz33_1
            try clear hfz33_2
            try clear hfz33_3
            try clear hfz33_4
            try clear hfz33_5
            try clear hfz33_6
            try clear hfz33_7
            try clear hfz34_0
            try clear hfz34_1
            try clear hfz34_2
            try clear hfz34_3
            try clear hfz34_4
            try clear hfz34_5
            try clear hfz34_6
            try clear hfz34_7
            try clear hfz35_0
            try clear hfz35_1
            try clear hfz35_2
            try clear hfz35_3
            try clear hfz35_4
            try clear hfz35_5
            try clear hfz35_6
            try clear hfz35_7
            try clear hfz36_0
            try clear hfz36_1
            try clear hfz36_2
            try clear hfz36_3
            try clear hfz36_4
            try clear hfz36_5
            try clear hfz36_6
            try clear hfz36_7
            try clear hfz42_0
            try clear hfz42_1
            try clear hfz42_2
            try clear hfz42_3
            try clear hfz42_4
            try clear hfz42_5
            try clear hfz42_6
            try clear hfz42_7
            try clear hfz44_0
            try clear hfz44_1
            try clear hfz44_2
            try clear hfz44_3
            try clear hfz44_4
            try clear hfz44_5
            try clear hfz44_6
            try clear hfz44_7
            try clear hfz45_0
            try clear hfz45_1
            try clear hfz45_2
            try clear hfz45_3
            try clear hfz45_4
            try clear hfz45_5
            try clear hfz45_6
            try clear hfz45_7
            try clear hfz46_0
            try clear hfz46_1
            try clear hfz46_2
            try clear hfz46_3
            try clear hfz46_4
            try clear hfz46_5
            try clear hfz46_6
            try clear hfz46_7
            try clear hfz47_0
            try clear hfz47_1
            try clear hfz47_2
            try clear hfz47_3
            try clear hfz47_4
            try clear hfz47_5
            try clear hfz47_6
            try clear hfz47_7
            try clear hfz4_3
            try clear hfz4_4
            try clear hfz4_5
            try clear hfz4_6
            try clear hfz4_7
            try clear hfz53_0
            try clear hfz53_1
            try clear hfz53_2
            try clear hfz53_3
            try clear hfz53_4
            try clear hfz53_5
            try clear hfz53_6
            try clear hfz53_7
            try clear hfz55_0
            try clear hfz55_1
            try clear hfz55_2
            try clear hfz55_3
            try clear hfz55_4
            try clear hfz55_5
            try clear hfz55_6
            try clear hfz55_7
            try clear hfz56_0
            try clear hfz56_1
            try clear hfz56_2
            try clear hfz56_3
            try clear hfz56_4
            try clear hfz56_5
            try clear hfz56_6
            try clear hfz56_7
            try clear hfz57_0
            try clear hfz57_1
            try clear hfz57_2
            try clear hfz57_3
            try clear hfz57_4
            try clear hfz57_5
            try clear hfz57_6
            try clear hfz57_7
            try clear hfz58_0
            try clear hfz58_1
            try clear hfz58_2
            try clear hfz58_3
            try clear hfz58_4
            try clear hfz58_5
            try clear hfz58_6
            try clear hfz58_7
            try clear hfz7_0
            try clear hfz7_1
            try clear hfz7_2
            try clear hfz7_3
            try clear hfz7_4
            try clear hfz7_5
            try clear hfz7_6
            try clear hfz7_7
            try clear hfz9_0
            try clear hfz9_1
            try clear hfz9_2
            try clear hfz9_3
            try clear hfz9_4
            try clear hfz9_5
            try clear hfz9_6
            try clear hfz9_7
            try clear p2
            obtain ⟨x4_4, x5_4, rfl, rfl, HA, HK4, BK129, HB⟩ := hrel
            cases gk with
            | zero => exact absurd HA.out (by simp [emenderref09_Check.l0])
            | succ k4 =>
             have H := HA.out
             clear HA
             simp only [emenderref09_Check.l0] at H
             by_cases c59 : x5_4 < (l0_6.length : Int)
             · rw [if_pos c59] at H
               have c59b0 : decide (x5_4 < (l0_6.length : Int)) = true := decide_eq_true c59
               clear c59
               by_cases c60 : x4_4 = true
               · subst c60
                 have H1 : (if 0 ≤ x5_4 then ((emenderref04_Right.f k4 ((rd_T111 l0_6 x5_4).f0) ((rd_T111 l0_6 x5_4).f1) ((rd_T111 l0_6 x5_4).f2) ((rd_T111 l0_6 x5_4).f3)).bind fun t131 => (emenderref09_Check.l0 k4 t131 (wrap64 (x5_4 + 1)) a0_0 a0_1 a0_2 a0_3 a0_4 a0_5 l0_6 a0_7)) else (none)) = some r := by rw [if_pos rfl] at H; exact H
                 clear H
                 have H := H1
                 clear H1
                 by_cases c61 : 0 ≤ x5_4
                 · rw [if_pos c61] at H
                   have c61b0 : decide (0 ≤ x5_4) = true := decide_eq_true c61
                   clear c61
                   replace H := Option.bind_eq_some_iff.mp H
                   obtain ⟨t131, A620, H⟩ := H
                   replace H : (emenderref09_Check.l0 k4 t131 (wrap64 (x5_4 + 1)) a0_0 a0_1 a0_2 a0_3 a0_4 a0_5 l0_6 a0_7) = some r := H
                   have A62 := Aside0.mk A620
                   clear A620
                   have H' := Aside0.mk H
                   clear H
                   have hcz63_0 : wr.cell? ⟨gb129, 0, none⟩ = some (.int .i64 a0_0) := (blk_cell BK129.out 0).trans rfl
                   have hcz63_1 : wr.cell? ⟨gb129, 1, none⟩ = some (.int .i64 a0_1) := (blk_cell BK129.out 1).trans rfl
                   have hcz63_2 : wr.cell? ⟨gb129, 2, none⟩ = some (.int .i64 a0_2) := (blk_cell BK129.out 2).trans rfl
                   have hcz63_3 : wr.cell? ⟨gb129, 3, none⟩ = some (.int .i64 a0_3) := (blk_cell BK129.out 3).trans rfl
                   have hcz63_4 : wr.cell? ⟨gb129, 4, none⟩ = some (.int .i64 a0_4) := (blk_cell BK129.out 4).trans rfl
                   have hcz63_5 : wr.cell? ⟨gb129, 5, none⟩ = some (.int .i64 a0_5) := (blk_cell BK129.out 5).trans rfl
                   have hcz63_6 : wr.cell? ⟨gb129, 6, none⟩ = some (.slice A0_6 l0_6.length c0_6) := (blk_cell BK129.out 6).trans rfl
                   have hcz63_7 : wr.cell? ⟨gb129, 7, none⟩ = some (.int .i64 a0_7) := (blk_cell BK129.out 7).trans rfl
                   have hfz63_0 := blk_frozen BK129.out 0
                   have hfz63_1 := blk_frozen BK129.out 1
                   have hfz63_2 := blk_frozen BK129.out 2
                   have hfz63_3 := blk_frozen BK129.out 3
                   have hfz63_4 := blk_frozen BK129.out 4
                   have hfz63_5 := blk_frozen BK129.out 5
                   have hfz63_6 := blk_frozen BK129.out 6
                   have hfz63_7 := blk_frozen BK129.out 7
                   have p130 : 0 ≤ (x5_4 : Int) := of_decide_eq_true (by first | (with_reducible assumption) | assumption)
                   have q130 : x5_4 < (l0_6.length : Int) := of_decide_eq_true (by first | (with_reducible assumption) | assumption)
                   obtain ⟨ad130, e130, hx130_0, hx130_1, hx130_2, hx130_3⟩ := at_T111 HR0_6.out x5_4 p130 q130
                   cases e130
                   replace hx130_0 := (HB.out.cell (World.block_lt_of_cell? w _ hx130_0)).trans hx130_0
                   replace hx130_1 := (HB.out.cell (World.block_lt_of_cell? w _ hx130_1)).trans hx130_1
                   replace hx130_2 := (HB.out.cell (World.block_lt_of_cell? w _ hx130_2)).trans hx130_2
                   replace hx130_3 := (HB.out.cell (World.block_lt_of_cell? w _ hx130_3)).trans hx130_3
                   replace p130 := eq_true p130
                   replace q130 := eq_true q130
                   go_wp2_with (first | (go_at_call 105; (with_reducible refine (emenderref04_Right.calls k4 ((rd_T111 l0_6 x5_4).f0) ((rd_T111 l0_6 x5_4).f1) ((rd_T111 l0_6 x5_4).f2) ((rd_T111 l0_6 x5_4).f3) t131 _ A62.out).mono ?_); rintro e w64 ⟨rfl, hb⟩; have n0_ := Aside0.mk (blk_below (g := gb129) (o := .cells #[.int .i64 a0_0, .int .i64 a0_1, .int .i64 a0_2, .int .i64 a0_3, .int .i64 a0_4, .int .i64 a0_5, .slice (some ad130) l0_6.length c0_6, .int .i64 a0_7] 24 (0, 0)) (by (with_reducible repeat (first | refine blk_drewN ?_ _ | refine blk_drew ?_ | refine blk_alloc ?_ _)); exact BK129.out) hb); have n1_ := Aside0.mk (below_step (by repeat (first | (with_reducible first | exact HB.out | apply below_alloc | apply pw_below_drewN | apply below_drew1 | refine below_set ?_ GE129.out) | exact HB.out)) hb); clear BK129; clear HB; have BK129 := n0_; have HB := n1_; clear n0_ n1_; (try clear hb); (try clear hb2); (try clear hk); (try clear hi)))
                   go_roundg k4
                   case measure => have := HJ4.out; have := HJ13.out; have := HJ19.out; have := HK4.out; omega
                   case rel => exact ⟨(t131), (wrap64 (x5_4 + 1)), (by first | rfl | (simp; done) | (simp [*]; done)), (by first | rfl | (simp; done) | (simp [*]; done)), H', ⟨by have := HJ4.out; have := HJ13.out; have := HJ19.out; have := HK4.out; omega⟩, ⟨by (with_reducible repeat (first | refine blk_drewN ?_ _ | refine blk_drew ?_ | refine blk_alloc ?_ _)); exact BK129.out⟩, ⟨by repeat (first | (with_reducible first | exact HB.out | apply below_alloc | apply pw_below_drewN | apply below_drew1 | refine below_set ?_ GE129.out) | exact HB.out)⟩⟩
                 · rw [if_neg c61] at H
                   exact absurd H (by simp)
               · replace c60 := Bool.eq_false_iff.mpr c60
                 subst c60
                 have H1 : (emenderref09_Check.l0 k4 false (wrap64 (x5_4 + 1)) a0_0 a0_1 a0_2 a0_3 a0_4 a0_5 l0_6 a0_7) = some r := by rw [if_neg (show ¬ (false = true) by decide)] at H; exact H
                 clear H
                 have H := H1
                 clear H1
                 have H' := Aside0.mk H
                 clear H
                 have hcz65_0 : wr.cell? ⟨gb129, 0, none⟩ = some (.int .i64 a0_0) := (blk_cell BK129.out 0).trans rfl
                 have hcz65_1 : wr.cell? ⟨gb129, 1, none⟩ = some (.int .i64 a0_1) := (blk_cell BK129.out 1).trans rfl
                 have hcz65_2 : wr.cell? ⟨gb129, 2, none⟩ = some (.int .i64 a0_2) := (blk_cell BK129.out 2).trans rfl
                 have hcz65_3 : wr.cell? ⟨gb129, 3, none⟩ = some (.int .i64 a0_3) := (blk_cell BK129.out 3).trans rfl
                 have hcz65_4 : wr.cell? ⟨gb129, 4, none⟩ = some (.int .i64 a0_4) := (blk_cell BK129.out 4).trans rfl
                 have hcz65_5 : wr.cell? ⟨gb129, 5, none⟩ = some (.int .i64 a0_5) := (blk_cell BK129.out 5).trans rfl
                 have hcz65_6 : wr.cell? ⟨gb129, 6, none⟩ = some (.slice A0_6 l0_6.length c0_6) := (blk_cell BK129.out 6).trans rfl
                 have hcz65_7 : wr.cell? ⟨gb129, 7, none⟩ = some (.int .i64 a0_7) := (blk_cell BK129.out 7).trans rfl
                 have hfz65_0 := blk_frozen BK129.out 0
                 have hfz65_1 := blk_frozen BK129.out 1
                 have hfz65_2 := blk_frozen BK129.out 2
                 have hfz65_3 := blk_frozen BK129.out 3
                 have hfz65_4 := blk_frozen BK129.out 4
                 have hfz65_5 := blk_frozen BK129.out 5
                 have hfz65_6 := blk_frozen BK129.out 6
                 have hfz65_7 := blk_frozen BK129.out 7
                 go_wp2
                 go_roundg k4
                 case measure => have := HJ4.out; have := HJ13.out; have := HJ19.out; have := HK4.out; omega
                 case rel => exact ⟨(false), (wrap64 (x5_4 + 1)), (by first | rfl | (simp; done) | (simp [*]; done)), (by first | rfl | (simp; done) | (simp [*]; done)), H', ⟨by have := HJ4.out; have := HJ13.out; have := HJ19.out; have := HK4.out; omega⟩, ⟨by (with_reducible repeat (first | refine blk_drewN ?_ _ | refine blk_drew ?_ | refine blk_alloc ?_ _)); exact BK129.out⟩, ⟨by repeat (first | (with_reducible first | exact HB.out | apply below_alloc | apply pw_below_drewN | apply below_drew1 | refine below_set ?_ GE129.out) | exact HB.out)⟩⟩
             · rw [if_neg c59] at H
               have c59b0 : decide (x5_4 < (l0_6.length : Int)) = false := decide_eq_false c59
               clear c59
               by_cases c66 : x4_4 = true
               · subst c66
                 have H1 : (some 0) = some r := by rw [if_pos rfl] at H; exact H
                 clear H
                 have H := H1
                 clear H1
                 obtain rfl := Option.some.inj H
                 have hcz67_0 : wr.cell? ⟨gb129, 0, none⟩ = some (.int .i64 a0_0) := (blk_cell BK129.out 0).trans rfl
                 have hcz67_1 : wr.cell? ⟨gb129, 1, none⟩ = some (.int .i64 a0_1) := (blk_cell BK129.out 1).trans rfl
                 have hcz67_2 : wr.cell? ⟨gb129, 2, none⟩ = some (.int .i64 a0_2) := (blk_cell BK129.out 2).trans rfl
                 have hcz67_3 : wr.cell? ⟨gb129, 3, none⟩ = some (.int .i64 a0_3) := (blk_cell BK129.out 3).trans rfl
                 have hcz67_4 : wr.cell? ⟨gb129, 4, none⟩ = some (.int .i64 a0_4) := (blk_cell BK129.out 4).trans rfl
                 have hcz67_5 : wr.cell? ⟨gb129, 5, none⟩ = some (.int .i64 a0_5) := (blk_cell BK129.out 5).trans rfl
                 have hcz67_6 : wr.cell? ⟨gb129, 6, none⟩ = some (.slice A0_6 l0_6.length c0_6) := (blk_cell BK129.out 6).trans rfl
                 have hcz67_7 : wr.cell? ⟨gb129, 7, none⟩ = some (.int .i64 a0_7) := (blk_cell BK129.out 7).trans rfl
                 have hfz67_0 := blk_frozen BK129.out 0
                 have hfz67_1 := blk_frozen BK129.out 1
                 have hfz67_2 := blk_frozen BK129.out 2
                 have hfz67_3 := blk_frozen BK129.out 3
                 have hfz67_4 := blk_frozen BK129.out 4
                 have hfz67_5 := blk_frozen BK129.out 5
                 have hfz67_6 := blk_frozen BK129.out 6
                 have hfz67_7 := blk_frozen BK129.out 7
                 go_wp2
                 go_ret
                 exact ⟨by first | rfl | (simp [errW_none, errW_some] <;> rfl) | (simp [*, errW_none, errW_some] <;> rfl), by repeat (first | (with_reducible first | exact HB.out | apply below_alloc | apply pw_below_drewN | apply below_drew1 | refine below_set ?_ GE129.out) | exact HB.out)⟩
               · replace c66 := Bool.eq_false_iff.mpr c66
                 subst c66
                 have H1 : (some 1) = some r := by rw [if_neg (show ¬ (false = true) by decide)] at H; exact H
                 clear H
                 have H := H1
                 clear H1
                 obtain rfl := Option.some.inj H
                 have hcz68_0 : wr.cell? ⟨gb129, 0, none⟩ = some (.int .i64 a0_0) := (blk_cell BK129.out 0).trans rfl
                 have hcz68_1 : wr.cell? ⟨gb129, 1, none⟩ = some (.int .i64 a0_1) := (blk_cell BK129.out 1).trans rfl
                 have hcz68_2 : wr.cell? ⟨gb129, 2, none⟩ = some (.int .i64 a0_2) := (blk_cell BK129.out 2).trans rfl
                 have hcz68_3 : wr.cell? ⟨gb129, 3, none⟩ = some (.int .i64 a0_3) := (blk_cell BK129.out 3).trans rfl
                 have hcz68_4 : wr.cell? ⟨gb129, 4, none⟩ = some (.int .i64 a0_4) := (blk_cell BK129.out 4).trans rfl
                 have hcz68_5 : wr.cell? ⟨gb129, 5, none⟩ = some (.int .i64 a0_5) := (blk_cell BK129.out 5).trans rfl
                 have hcz68_6 : wr.cell? ⟨gb129, 6, none⟩ = some (.slice A0_6 l0_6.length c0_6) := (blk_cell BK129.out 6).trans rfl
                 have hcz68_7 : wr.cell? ⟨gb129, 7, none⟩ = some (.int .i64 a0_7) := (blk_cell BK129.out 7).trans rfl
                 have hfz68_0 := blk_frozen BK129.out 0
                 have hfz68_1 := blk_frozen BK129.out 1
                 have hfz68_2 := blk_frozen BK129.out 2
                 have hfz68_3 := blk_frozen BK129.out 3
                 have hfz68_4 := blk_frozen BK129.out 4
                 have hfz68_5 := blk_frozen BK129.out 5
                 have hfz68_6 := blk_frozen BK129.out 6
                 have hfz68_7 := blk_frozen BK129.out 7
                 go_wp2
                 go_ret
                 exact ⟨by first | rfl | (simp [errW_none, errW_some] <;> rfl) | (simp [*, errW_none, errW_some] <;> rfl), by repeat (first | (with_reducible first | exact HB.out | apply below_alloc | apply pw_below_drewN | apply below_drew1 | refine below_set ?_ GE129.out) | exact HB.out)⟩
end Go.Proofs.Ytmbnjgnmblgjoaa.K
end
