-- Laid together by a program of this session (wip/tools/shake.py). Not trusted: Lean checks it.
import Derived.Test.YtmbnjgnmblgjoaaTn2

-- JState
section
/- What a journal's opening stands at, between two rounds: its blocks and rows; what each step of a round leaves of them. -/



namespace Go.Proofs.Ytmbnjgnmblgjoaa.Man
open Go.RowKit Go.Shelf Go.Proofs.YtmbnjgnmblgjoaaW.PrintWords Go.Proofs.YtmbnjgnmblgjoaaW.PrintLast Go.Proofs.YtmbnjgnmblgjoaaW.PrintMore
set_option linter.unusedVariables false
set_option linter.unusedSimpArgs false
set_option maxRecDepth 100000

/-- A journal in block J: its disk, its places. -/
def JAt (w : World) (J D : Nat) (v : Value) : Prop := w.heap[J]? = some (.cells #[.pointer (some ⟨D, 0, none⟩), v] 184 (0, 0))
theorem JAt.c0 {w : World} {J D : Nat} {v : Value} (k : JAt w J D v) : w.cell? ⟨J, 0, none⟩ = some (.pointer (some ⟨D, 0, none⟩)) := by simp [World.cell?, show w.heap[J]? = _ from k]
theorem JAt.c1 {w : World} {J D : Nat} {v : Value} (k : JAt w J D v) : w.cell? ⟨J, 1, none⟩ = some v := by simp [World.cell?, show w.heap[J]? = _ from k]
theorem JAt.f {w : World} {J D : Nat} {v : Value} (k : JAt w J D v) (j : Nat) : w.frozen? ⟨J, j, none⟩ = false := by simp [World.frozen?, show w.heap[J]? = _ from k]
theorem JAt.lt {w : World} {J D : Nat} {v : Value} (k : JAt w J D v) : J < w.heap.size := (Array.getElem?_eq_some_iff.1 k).1
theorem JAt.put1 {w : World} {J D : Nat} {v : Value} (k : JAt w J D v) (u : Value) : JAt (w.setCell ⟨J, 1, none⟩ u) J D u := by
  unfold JAt World.setCell
  simp [Array.getElem?_modify, show w.heap[J]? = _ from k]
theorem JAt.ne {w w1 : World} {J D : Nat} {v : Value} (k : JAt w J D v) (h : w1.heap[J]? = w.heap[J]?) : JAt w1 J D v := h.trans k
/-- A row of places of the call's own. -/
abbrev IR (w : World) (base : Nat) (v : Value) (xs : List Int) : Prop := Kd.R (Kd.int .i64) 3 w base (fun _ => True) v xs
theorem IR.len {w : World} {base : Nat} {v : Value} {xs : List Int} (h : IR w base v xs) : ∃ A c, v = .slice A xs.length c ∧ xs.length ≤ c ∧ Kd.C (Kd.int .i64) w A xs.length xs := Kd.R_reads h
theorem info_int : (Try.prog.info? 3).map (fun i => (i.zero, i.size, i.bytes)) = some (some (.int .i64 0), 1, 8) := by kernel_rfl

section
variable {α : Type} {d : Kd α} {e base : Nat} {v : Value} {xs : List α} {W Y : World}
/-- Where a block that is no cells was written, every row stands. -/
theorem R_nc {row : Option Nat} (h : d.R e W base (fun _ => True) v xs) (hg : W.grownBy Y row) (hr : ∀ r, row = some r → ∃ o : Obj, W.heap[r]? = some o ∧ o.isCells = false) : d.R e Y base (fun _ => True) v xs :=
  Kd.R_mono (Kd.R_grown (Kd.R_bound h) hg (fun k hk e => by
    obtain ⟨o, ho, hc⟩ := hr k e.symm
    obtain ⟨_, _, _, q, _, cells, hq⟩ := hk
    rw [ho] at hq
    cases hq
    cases hc)) (fun _ _ => trivial)
/-- Where cells stand, every row stands. -/
theorem R_cells (h : d.R e W base (fun _ => True) v xs) (hm : ∀ (k : Nat) (o : Obj), W.heap[k]? = some o → o.isCells = true → Y.heap[k]? = some o) : d.R e Y base (fun _ => True) v xs :=
  Kd.R_mono (Kd.R_move (Kd.R_bound h) (fun k hk => by
    obtain ⟨_, _, _, q, _, cells, hq⟩ := hk
    rw [hq]
    exact hm _ _ hq rfl)) (fun _ _ => trivial)
/-- Where a row of another type was written, a row stands. -/
theorem R_typed {row : Option Nat} {t : TypeId} (h : d.R e W base (fun _ => True) v xs) (ht : t ∉ e :: d.E) (hg : W.grownBy Y row) (hr : ∀ r, row = some r → ∃ cs, W.heap[r]? = some (.cells cs t (0, 0))) : d.R e Y base (fun _ => True) v xs :=
  Kd.R_mono (Kd.R_grown (Kd.R_bound h) hg (fun k hk e => by
    obtain ⟨cs, ho⟩ := hr k e.symm
    obtain ⟨_, _, _, q, hq1, cells, hq⟩ := hk
    rw [ho] at hq
    cases hq
    exact ht hq1)) (fun _ _ => trivial)
theorem R_typ (h : d.R e W base (fun _ => True) v xs) (r : Nat) (hr : v.ownBlock = some r) : ∃ cs, W.heap[r]? = some (.cells cs e (0, 0)) := own_typed (Kd.R_own h).choose_spec r hr
theorem R_ge (h : d.R e W base (fun _ => True) v xs) (r : Nat) (hr : v.ownBlock = some r) : base ≤ r := own_base (Kd.R_own h).choose_spec r hr
theorem R_lt (h : d.R e W base (fun _ => True) v xs) (r : Nat) (hr : v.ownBlock = some r) : r < W.heap.size := own_lt (Kd.R_own h).choose_spec r hr
end

theorem DStep.then_ {w w1 w2 : World} {B : Nat} {v v1 v2 : Value} (h : DStep w w1 B v v1) (k : DStep w1 w2 B v1 v2) : DStep w w2 B v v2 := by
  refine ⟨k.os.trans h.os, k.tape.trans h.tape, k.output.trans h.output, Nat.le_trans h.size k.size, fun j hj hB hv => (k.block j (by have := h.size; omega) hB ?_).trans (h.block j hj hB hv), ?_⟩
  · rcases h.row with e | ⟨b, e, hb⟩
    · rw [e]; exact hv
    · rw [e]; intro q; cases q; omega
  · rcases k.row with e | ⟨b, e, hb⟩
    · rw [e]; exact h.row
    · exact .inr ⟨b, e, by have := h.size; omega⟩
theorem DStep.of_below_ {w w1 : World} (B : Nat) (v : Value) (h : Below w.heap.size w w1) : DStep w w1 B v v := ⟨h.os, h.tape, h.output, h.size, fun k hk _ _ => h.block k hk, .inl rfl⟩
theorem DiskS.shut {n0 : Nat} {w w' : World} {base B : Nat} {v : Value} {xs : List Int} {s m : Int} (h : DiskS w base B v xs s m) (hs : Shut n0 w w') : DiskS w' base B v xs s m :=
  { h with
    cells := hs.cells _ _ h.cells rfl
    row := h.row.move fun k hk => by
      obtain ⟨_, _, cur, hc⟩ := h.row.block hk
      rw [hc]
      exact hs.cells _ _ hc rfl }
theorem DStep.shut {w w1 w' : World} {B : Nat} {v v' : Value} (h : DStep w w1 B v v') (hs : Shut w.heap.size w1 w') : DStep w w' B v v' :=
  ⟨hs.os.trans h.os, hs.tape.trans h.tape, hs.output.trans h.output, by rw [hs.size]; exact h.size, fun k hk h1 h2 => (hs.block k hk).trans (h.block k hk h1 h2), h.row⟩
/-- What a round's step keeps: what is no cells; what lies between the opening's boxes and its rows. -/
structure JK (lo base : Nat) (W W' : World) : Prop where
  size : W.heap.size ≤ W'.heap.size
  keep : ∀ (k : Nat) (o : Obj), W.heap[k]? = some o → o.isCells = false → W'.heap[k]? = some o
  mid : ∀ k, lo ≤ k → k < base → k < W.heap.size → W'.heap[k]? = W.heap[k]?
theorem JK.trans {lo base : Nat} {A B C : World} (h : JK lo base A B) (k : JK lo base B C) : JK lo base A C :=
  ⟨Nat.le_trans h.size k.size, fun i o hi hc => k.keep i o (h.keep i o hi hc) hc, fun i h1 h2 h3 => (k.mid i h1 h2 (Nat.lt_of_lt_of_le h3 h.size)).trans (h.mid i h1 h2 h3)⟩
theorem JK.of_below {lo base : Nat} {W W' : World} (h : Below W.heap.size W W') : JK lo base W W' :=
  ⟨h.size, fun k o hk _ => (h.block k (Array.getElem?_eq_some_iff.1 hk).1).trans hk, fun k _ _ hk => h.block k hk⟩
theorem JK.of_row {lo base : Nat} {W W' : World} {row : Option Nat} {t : TypeId} (hg : W.grownBy W' row) (hb : ∀ r, row = some r → base ≤ r) (hr : ∀ r, row = some r → ∃ cs, W.heap[r]? = some (.cells cs t (0, 0))) : JK lo base W W' :=
  ⟨hg.size, fun k o hk hc => (hg.block k (Array.getElem?_eq_some_iff.1 hk).1 (fun e => by obtain ⟨cs, h⟩ := hr k e.symm; rw [hk] at h; cases h; cases hc)).trans hk,
    fun k _ h2 h3 => hg.block k h3 (fun e => by have := hb k e.symm; omega)⟩
theorem JK.of_set {lo base : Nat} {W : World} {P j : Nat} {u : Value} {cs : Array Value} {t : TypeId} (hP : P < lo) (hc : W.heap[P]? = some (.cells cs t (0, 0))) : JK lo base W (W.setCell ⟨P, j, none⟩ u) :=
  ⟨by simp [World.setCell], fun k o hk ho => (Below.heap_setCell W ⟨P, j, none⟩ u k (fun e => by subst e; rw [hc] at hk; cases hk; cases ho)).trans hk, fun k h1 _ _ => Below.heap_setCell W ⟨P, j, none⟩ u k (by show k ≠ P; omega)⟩

/-- What the opening stands at. -/
structure JoS (w1 W : World) (D J base : Nat) (vE vL : Value) (at_ : Int) (es : List Int) (xs : List K.S26) : Prop where
  jr : JAt W J D vE
  jv : Boxed W (J + 1) 106 (.pointer (some ⟨J, 0, none⟩))
  lv : Boxed W (J + 2) 69 vL
  av : Boxed W (J + 3) 3 (.int .i64 at_)
  ends : IR W base vE es
  ents : ER W base vL xs
  bel : Below w1.heap.size w1 W
  sz : base ≤ W.heap.size
  j0 : w1.heap.size ≤ J
  j1 : J + 4 ≤ base
section
variable {w1 W W' : World} {D J base : Nat} {vE vL v' : Value} {at_ : Int} {es es' : List Int} {xs xs' : List K.S26}
theorem JoS.nc (h : JoS w1 W D J base vE vL at_ es xs) {row : Option Nat} (hg : W.grownBy W' row) (hr : ∀ r, row = some r → base ≤ r ∧ ∃ o : Obj, W.heap[r]? = some o ∧ o.isCells = false) : JoS w1 W' D J base vE vL at_ es xs := by
  have hne : ∀ k, k < base → some k ≠ row := fun k hk e => by have := (hr k e.symm).1; omega
  have hj := h.j1
  exact ⟨(hg.block _ h.jr.lt (hne _ (by omega))).trans h.jr, h.jv.kept hg (hne _ (by omega)), h.lv.kept hg (hne _ (by omega)), h.av.kept hg (hne _ (by omega)), R_nc h.ends hg (fun r e => (hr r e).2), R_nc h.ents hg (fun r e => (hr r e).2),
    h.bel.grown hg h.bel.size (fun r e => by have := (hr r e).1; have := h.j0; omega), Nat.le_trans h.sz hg.size, h.j0, h.j1⟩
theorem JoS.below (h : JoS w1 W D J base vE vL at_ es xs) (hb : Below W.heap.size W W') : JoS w1 W' D J base vE vL at_ es xs :=
  ⟨(hb.block _ h.jr.lt).trans h.jr, (hb.block _ h.jv.lt).trans h.jv, (hb.block _ h.lv.lt).trans h.lv, (hb.block _ h.av.lt).trans h.av, Kd.R_below h.ends hb, Kd.R_below h.ents hb, h.bel.trans (hb.mono h.bel.size), Nat.le_trans h.sz hb.size, h.j0, h.j1⟩
/-- Places were put behind the others, and stored. -/
theorem JoS.putE (h : JoS w1 W D J base vE vL at_ es xs) (hg : W.grownBy W' vE.ownBlock) (hr : IR W' base v' es') : JoS w1 (W'.setCell ⟨J, 1, none⟩ v') D J base v' vL at_ es' xs := by
  have hj := h.j1
  have hge : ∀ r, vE.ownBlock = some r → base ≤ r := R_ge h.ends
  have hne : ∀ k, k < base → some k ≠ vE.ownBlock := fun k hk e => by have := hge k e.symm; omega
  have hL : ER W' base vL xs := R_typed h.ents (t := 3) (by decide) hg (R_typ h.ends)
  have hJ : JAt W' J D vE := (hg.block _ h.jr.lt (hne _ (by omega))).trans h.jr
  refine ⟨hJ.put1 v', ?_, ?_, ?_, ?_, ?_, ?_, ?_, h.j0, h.j1⟩
  · exact (Below.heap_setCell _ _ _ _ (by show J + 1 ≠ J; omega)).trans (h.jv.kept hg (hne _ (by omega)))
  · exact (Below.heap_setCell _ _ _ _ (by show J + 2 ≠ J; omega)).trans (h.lv.kept hg (hne _ (by omega)))
  · exact (Below.heap_setCell _ _ _ _ (by show J + 3 ≠ J; omega)).trans (h.av.kept hg (hne _ (by omega)))
  · exact Kd.R_grown (Kd.R_bound hr) (grownBy_set W' J 1 v' (World.grownBy.refl W' _)) (fun k hk e => by cases e; have := hk.2.1; omega) |> fun h => Kd.R_mono h (fun _ _ => trivial)
  · exact ER.set hL (by omega) 1 v'
  · exact (h.bel.grown hg h.bel.size (fun r e => by have := hge r e; have := h.j0; omega)).setCell (p := ⟨J, 1, none⟩) h.j0 v'
  · have := hg.size; have := h.sz; simp [World.setCell]; omega
theorem JoS.keepE (h : JoS w1 W D J base vE vL at_ es xs) (hg : W.grownBy W' vE.ownBlock) : JK (J + 4) base W (W'.setCell ⟨J, 1, none⟩ v') := by
  have hj := h.j1
  have hge : ∀ r, vE.ownBlock = some r → base ≤ r := R_ge h.ends
  have hJ : JAt W' J D vE := (hg.block _ h.jr.lt (fun e => by have := hge _ e.symm; omega)).trans h.jr
  exact (JK.of_row hg hge (R_typ h.ends)).trans (JK.of_set (by omega) hJ)
/-- An entry was put behind the others, and stored. -/
theorem JoS.putL (h : JoS w1 W D J base vE vL at_ es xs) (hg : W.grownBy W' vL.ownBlock) (hr : ER W' base v' xs') : JoS w1 (W'.setCell ⟨J + 2, 0, none⟩ v') D J base vE v' at_ es xs' := by
  have hj := h.j1
  have hge : ∀ r, vL.ownBlock = some r → base ≤ r := R_ge h.ents
  have hne : ∀ k, k < base → some k ≠ vL.ownBlock := fun k hk e => by have := hge k e.symm; omega
  have hE : IR W' base vE es := R_typed h.ends (t := 26) (by decide) hg (R_typ h.ents)
  have hB : Boxed W' (J + 2) 69 vL := h.lv.kept hg (hne _ (by omega))
  refine ⟨?_, ?_, hB.set v', ?_, ?_, ?_, ?_, ?_, h.j0, h.j1⟩
  · exact (Below.heap_setCell _ _ _ _ (by show J ≠ J + 2; omega)).trans ((hg.block _ h.jr.lt (hne _ (by omega))).trans h.jr)
  · exact (Below.heap_setCell _ _ _ _ (by show J + 1 ≠ J + 2; omega)).trans (h.jv.kept hg (hne _ (by omega)))
  · exact (Below.heap_setCell _ _ _ _ (by show J + 3 ≠ J + 2; omega)).trans (h.av.kept hg (hne _ (by omega)))
  · exact Kd.R_grown (Kd.R_bound hE) (grownBy_set W' (J + 2) 0 v' (World.grownBy.refl W' _)) (fun k hk e => by cases e; have := hk.2.1; omega) |> fun h => Kd.R_mono h (fun _ _ => trivial)
  · exact ER.set hr (by omega) 0 v'
  · exact (h.bel.grown hg h.bel.size (fun r e => by have := hge r e; have := h.j0; omega)).setCell (p := ⟨J + 2, 0, none⟩) (by have := h.j0; show w1.heap.size ≤ J + 2; omega) v'
  · have := hg.size; have := h.sz; simp [World.setCell]; omega
theorem JoS.keepL (h : JoS w1 W D J base vE vL at_ es xs) (hg : W.grownBy W' vL.ownBlock) : JK (J + 4) base W (W'.setCell ⟨J + 2, 0, none⟩ v') := by
  have hj := h.j1
  have hge : ∀ r, vL.ownBlock = some r → base ≤ r := R_ge h.ents
  have hB : Boxed W' (J + 2) 69 vL := h.lv.kept hg (fun e => by have := hge _ e.symm; omega)
  exact (JK.of_row hg hge (R_typ h.ents)).trans (JK.of_set (by omega) hB)
theorem JoS.putA (h : JoS w1 W D J base vE vL at_ es xs) (n : Int) : JoS w1 (W.setCell ⟨J + 3, 0, none⟩ (.int .i64 n)) D J base vE vL n es xs := by
  have hj := h.j1
  refine ⟨?_, h.jv.other (by omega) _, h.lv.other (by omega) _, h.av.set _, ?_, ER.set h.ents (by omega) 0 _, h.bel.setCell (p := ⟨J + 3, 0, none⟩) (by have := h.j0; show w1.heap.size ≤ J + 3; omega) _, by have := h.sz; simpa [World.setCell] using this, h.j0, h.j1⟩
  · exact (Below.heap_setCell _ _ _ _ (by show J ≠ J + 3; omega)).trans h.jr
  · exact Kd.R_grown (Kd.R_bound h.ends) (grownBy_set W (J + 3) 0 _ (World.grownBy.refl W _)) (fun k hk e => by cases e; have := hk.2.1; omega) |> fun h => Kd.R_mono h (fun _ _ => trivial)
theorem JoS.keepA (h : JoS w1 W D J base vE vL at_ es xs) (n : Int) : JK (J + 4) base W (W.setCell ⟨J + 3, 0, none⟩ (.int .i64 n)) := JK.of_set (by omega) h.av
end
end Go.Proofs.Ytmbnjgnmblgjoaa.Man
end

-- OpensCodec
section
/- What tokens, entries, messages read as. -/


namespace Go.Proofs.Ytmbnjgnmblgjoaa.Open
open Go.RowKit Go.ChangeShapes Go.WideShapes Go.Proofs.YtmbnjgnmblgjoaaW.PrintWords
set_option linter.unusedVariables false
/-- Opens, OpensF, shut up in a structure: Lean does not look through them. -/
structure OP {α : Type} (P : Program) (t : TypeId) (K : Kd α) (bk : α → Nat) : Prop where
  out : Opens P t K (fun _ => True) bk
structure OF {α : Type} (P : Program) (o : Nat) (fs : List Field) (K : Kd α) (bk : α → Nat) : Prop where
  out : OpensF P o fs K (fun _ => True) bk
theorem OP.of {α : Type} {P : Program} {t : TypeId} {K : Kd α} {wf : α → Prop} {bk bk' : α → Nat} (h : Opens P t K wf bk) (hb : ∀ x, bk' x ≤ bk x) : OP P t K bk' := ⟨by
  intro H enc w fuel cs d ps hd hwt
  obtain ⟨x, k1, k2, k3⟩ := h enc w fuel cs d ps hd hwt
  exact ⟨x, k1, trivial, Nat.le_trans (hb x) k3⟩⟩
theorem OF.of {α : Type} {P : Program} {o : Nat} {fs : List Field} {K : Kd α} {wf : α → Prop} {bk bk' : α → Nat} (h : OpensF P o fs K wf bk) (hb : ∀ x, bk' x ≤ bk x) : OF P o fs K bk' := ⟨by
  intro H enc w n cs ys hl hy hwt
  obtain ⟨x, k1, k2, k3⟩ := h enc w n cs ys hl hy hwt
  exact ⟨x, k1, trivial, Nat.le_trans (hb x) k3⟩⟩
theorem OF.cons {α β : Type} {P : Program} {o : Nat} {f : Field} {fs : List Field} {K : Kd α} {K' : Kd β} {bk : α → Nat} {bk' : β → Nat} (ho : f.offset = o) (hc : P.cellsOf f.type = K.sz) (h : OP P f.type K bk) (h' : OF P (o + K.sz) fs K' bk') : OF P o (f :: fs) (Kd.pair K K') (fun x => bk x.1 + bk' x.2) :=
  .of (opensF_cons ho hc h.out h'.out) (fun _ => Nat.le_refl _)
theorem OP.struct {α β : Type} {P : Program} {t : TypeId} {fs : Array Field} {l : List Field} {K : Kd α} {bk : α → Nat} (f : β → α) (g : α → β) (hfg : ∀ a, f (g a) = a) (ht : P.underlying t = some (.struct fs)) (hl : fs.toList = l) (hc : P.cellsOf t = K.sz) (h : OF P 0 l K bk) : OP P t (Kd.iso K f) (fun x => bk (f x) + 1) :=
  .of (opens_iso f g hfg (opens_struct ht hl hc h.out)) (fun _ => Nat.le_refl _)
theorem OP.slice {α : Type} {P : Program} {t e : TypeId} {K : Kd α} {bk : α → Nat} (ht : P.underlying t = some (.slice e)) (hc : P.cellsOf e = K.sz) (h : OP P e K bk) : OP P t (Kd.slice e K) (fun xs => sum1 bk xs + 1) :=
  .of (opens_slice ht hc (B := P.bytesOf e) rfl h.out e) (fun _ => Nat.le_refl _)
theorem OP.le {α : Type} {P : Program} {t : TypeId} {K : Kd α} {bk bk' : α → Nat} (h : OP P t K bk) (hb : ∀ x, bk' x ≤ bk x) : OP P t K bk' := .of h.out hb
theorem OF.le {α : Type} {P : Program} {o : Nat} {fs : List Field} {K : Kd α} {bk bk' : α → Nat} (h : OF P o fs K bk) (hb : ∀ x, bk' x ≤ bk x) : OF P o fs K bk' := .of h.out hb
/-- The kind of messages. -/
def kMsg : Kd Man.MsgL := Kd.iso (Kd.pair (Kd.int .i64) (Kd.pair (Kd.int .i64) (Kd.pair (Kd.int .i64) (Kd.slice 26 K.k26)))) (fun m : Man.MsgL => (m.k, m.who, m.ver, m.l))
end Go.Proofs.Ytmbnjgnmblgjoaa.Open
end

-- Back
section
/- The statement CodecBack, stepped through. No condition. Printed by wip/tools/gen_back.py. -/


namespace Go.Proofs.Ytmbnjgnmblgjoaa.Man
open Go.RowKit Go.Proofs.YtmbnjgnmblgjoaaW.PrintWords Go.Proofs.YtmbnjgnmblgjoaaW.PrintLast Go.Proofs.YtmbnjgnmblgjoaaW.PrintMore
set_option linter.unusedVariables false
set_option linter.unusedSimpArgs false
set_option maxRecDepth 100000

theorem EntAt.below {w W : World} {P c : Nat} {x : K.S26} {A : Option Addr} (h : EntAt w P x A c) (hb : Below w.heap.size w W) : EntAt W P x A c := (hb.block _ h.lt).trans h
theorem MsgAt.below {w W : World} {P n c : Nat} {k who ver : Int} {A : Option Addr} (h : MsgAt w P k who ver A n c) (hb : Below w.heap.size w W) : MsgAt W P k who ver A n c := (hb.block _ h.lt).trans h
theorem EntAt.ne {w W : World} {P c : Nat} {x : K.S26} {A : Option Addr} (h : EntAt w P x A c) (e : W.heap[P]? = w.heap[P]?) : EntAt W P x A c := e.trans h
theorem MsgAt.ne {w W : World} {P n c : Nat} {k who ver : Int} {A : Option Addr} (h : MsgAt w P k who ver A n c) (e : W.heap[P]? = w.heap[P]?) : MsgAt W P k who ver A n c := e.trans h
end Go.Proofs.Ytmbnjgnmblgjoaa.Man
end

-- JOpen
section
/- A journal's opening. -/



namespace Go.Proofs.Ytmbnjgnmblgjoaa.Man
open Go.RowKit Go.Shelf Go.Proofs.YtmbnjgnmblgjoaaW.PrintWords Go.Proofs.YtmbnjgnmblgjoaaW.PrintLast Go.Proofs.YtmbnjgnmblgjoaaW.PrintMore
set_option linter.unusedVariables false
set_option linter.unusedSimpArgs false
set_option maxRecDepth 100000
attribute [local go_sem] wide_fn_ Oper.semAt_some

theorem jo_start (w1 : World) (B : Nat) : (JAt ((((w1.alloc (.cells #[.pointer (some ⟨B, 0, none⟩), .slice none 0 0] 184)).alloc (.cells #[.pointer (some ⟨w1.heap.size, 0, none⟩)] 106)).alloc (.cells #[.slice none 0 0] 69)).alloc (.cells #[.int .i64 0] 3)) w1.heap.size B (.slice none 0 0) ∧
    Boxed ((((w1.alloc (.cells #[.pointer (some ⟨B, 0, none⟩), .slice none 0 0] 184)).alloc (.cells #[.pointer (some ⟨w1.heap.size, 0, none⟩)] 106)).alloc (.cells #[.slice none 0 0] 69)).alloc (.cells #[.int .i64 0] 3)) (w1.heap.size + 1) 106 (.pointer (some ⟨w1.heap.size, 0, none⟩)) ∧
    Boxed ((((w1.alloc (.cells #[.pointer (some ⟨B, 0, none⟩), .slice none 0 0] 184)).alloc (.cells #[.pointer (some ⟨w1.heap.size, 0, none⟩)] 106)).alloc (.cells #[.slice none 0 0] 69)).alloc (.cells #[.int .i64 0] 3)) (w1.heap.size + 2) 69 (.slice none 0 0) ∧
    Boxed ((((w1.alloc (.cells #[.pointer (some ⟨B, 0, none⟩), .slice none 0 0] 184)).alloc (.cells #[.pointer (some ⟨w1.heap.size, 0, none⟩)] 106)).alloc (.cells #[.slice none 0 0] 69)).alloc (.cells #[.int .i64 0] 3)) (w1.heap.size + 3) 3 (.int .i64 0)) ∧
    ((((w1.alloc (.cells #[.pointer (some ⟨B, 0, none⟩), .slice none 0 0] 184)).alloc (.cells #[.pointer (some ⟨w1.heap.size, 0, none⟩)] 106)).alloc (.cells #[.slice none 0 0] 69)).alloc (.cells #[.int .i64 0] 3)).heap.size = w1.heap.size + 4 ∧
    Below w1.heap.size w1 ((((w1.alloc (.cells #[.pointer (some ⟨B, 0, none⟩), .slice none 0 0] 184)).alloc (.cells #[.pointer (some ⟨w1.heap.size, 0, none⟩)] 106)).alloc (.cells #[.slice none 0 0] 69)).alloc (.cells #[.int .i64 0] 3)) := by
  refine ⟨⟨?_, ?_, ?_, ?_⟩, by simp, ((((Below.refl w1.heap.size w1).alloc (Nat.le_refl _) _).alloc (by simp) _).alloc (by simp; omega) _).alloc (by simp; omega) _⟩
  · exact (Below.heap_alloc _ _ _ (by simp; omega)).trans ((Below.heap_alloc _ _ _ (by simp; omega)).trans ((Below.heap_alloc _ _ _ (by simp)).trans (World.alloc_heap_new w1 _)))
  · have h := World.alloc_heap_new (w1.alloc (.cells #[.pointer (some ⟨B, 0, none⟩), .slice none 0 0] 184)) (.cells #[.pointer (some ⟨w1.heap.size, 0, none⟩)] 106)
    rw [World.size_alloc] at h
    exact (Below.heap_alloc _ _ _ (by simp)).trans ((Below.heap_alloc _ _ _ (by simp)).trans h)
  · have h := World.alloc_heap_new ((w1.alloc (.cells #[.pointer (some ⟨B, 0, none⟩), .slice none 0 0] 184)).alloc (.cells #[.pointer (some ⟨w1.heap.size, 0, none⟩)] 106)) (.cells #[.slice none 0 0] 69)
    rw [World.size_alloc, World.size_alloc] at h
    exact (Below.heap_alloc _ _ _ (by simp)).trans h
  · have h := World.alloc_heap_new (((w1.alloc (.cells #[.pointer (some ⟨B, 0, none⟩), .slice none 0 0] 184)).alloc (.cells #[.pointer (some ⟨w1.heap.size, 0, none⟩)] 106)).alloc (.cells #[.slice none 0 0] 69)) (.cells #[.int .i64 0] 3)
    rw [World.size_alloc, World.size_alloc, World.size_alloc] at h
    exact h

/-- Between two rounds: what the function keeps. -/
def JM (lo base : Nat) (X Y : World) : Prop := X.heap.size ≤ Y.heap.size ∧ ∀ k, lo ≤ k → k < base → k < X.heap.size → Y.heap[k]? = X.heap[k]?
theorem JK.jm {lo base : Nat} {X Y : World} (h : JK lo base X Y) : JM lo base X Y := ⟨h.size, h.mid⟩
theorem JK.kf {lo base : Nat} {X Y : World} (h : JK lo base X Y) (B : Nat) : KeepsFrom B X Y := ⟨h.size, fun k o _ hk ho => h.keep k o hk ho⟩
theorem JM.trans {lo base : Nat} {A B C : World} (h : JM lo base A B) (k : JM lo base B C) : JM lo base A C := ⟨Nat.le_trans h.1 k.1, fun i h1 h2 h3 => (k.2 i h1 h2 (Nat.lt_of_lt_of_le h3 h.1)).trans (h.2 i h1 h2 h3)⟩
theorem JoS.held {w1 W W' : World} {D J base : Nat} {vE vL : Value} {at_ : Int} {es : List Int} {xs : List K.S26} (h : JoS w1 W D J base vE vL at_ es xs) (hg : W.grownBy W' vE.ownBlock) :
    W'.cell? ⟨J + 1, 0, none⟩ = some (.pointer (some ⟨J, 0, none⟩)) ∧ W'.cell? ⟨J, 1, none⟩ = some vE ∧ W'.frozen? ⟨J, 1, none⟩ = false := by
  have hj := h.j1
  have hge : ∀ r, vE.ownBlock = some r → base ≤ r := R_ge h.ends
  have hne : ∀ k, k < base → some k ≠ vE.ownBlock := fun k hk e => by have := hge k e.symm; omega
  have hJ : JAt W' J D vE := (hg.block _ h.jr.lt (hne _ (by omega))).trans h.jr
  exact ⟨(h.jv.kept hg (hne _ (by omega))).cell, hJ.c1, hJ.f 1⟩
theorem JoS.held2 {w1 W W' : World} {D J base : Nat} {vE vL : Value} {at_ : Int} {es : List Int} {xs : List K.S26} (h : JoS w1 W D J base vE vL at_ es xs) (hg : W.grownBy W' vL.ownBlock) :
    W'.cell? ⟨J + 2, 0, none⟩ = some vL ∧ W'.frozen? ⟨J + 2, 0, none⟩ = false := by
  have hj := h.j1
  have hge : ∀ r, vL.ownBlock = some r → base ≤ r := R_ge h.ents
  have hB : Boxed W' (J + 2) 69 vL := h.lv.kept hg (fun e => by have := hge _ e.symm; omega)
  exact ⟨hB.cell, hB.frozen⟩
theorem apart_types {W : World} {j t t' : Nat} (h : ∃ cs, W.heap[j]? = some (.cells cs t (0, 0))) (h' : ∃ cs, W.heap[j]? = some (.cells cs t' (0, 0))) (hne : t ≠ t') : False := by
  obtain ⟨cs, h⟩ := h
  obtain ⟨cs', h'⟩ := h'
  rw [h] at h'
  cases h'
  exact hne rfl
def jopR10.T : Bool × List (List Nat × List Nat) := (true, [([], []), ([], []), ([1], [1]), ([2], [2]), ([3], [3]), ([], []), ([5], [5]), ([4, 6], [4, 6]), ([0, 0, 1, 2, 3, 4, 5, 6, 7], [0]), ([8, 0, 1, 2, 3, 4, 5, 6, 7], [8]), ([9, 7, 7, 0, 1, 2, 3, 4, 5, 6, 7], [7, 9])])
def jopR10.B : List Nat := [0, 0, 2, 6, 14, 0, 32, 126, 255, 511, 1023]
theorem jopR10.tab : rtab .any (opsOf Try.f72 10) = jopR10.T := by kernel_rfl
theorem jopR10.bits : waitsOk jopR10.T.2 jopR10.B = true := by kernel_rfl

set_option maxHeartbeats 16000000 in
theorem jopen_is {w : World} {dbase B : Nat} {v : Value} {b : List Int} {s m : Int} (hD : DiskS w dbase B v b s m) (hB : areBytesN b = true) {xs : List K.S26} {r : List Int} (hL : LogOf b xs r) :
    Calls Try.prog 72 #[.pointer (some ⟨B, 0, none⟩)] w fun e w' => ∃ J vE vL v', e = .returned (.tuple #[.pointer (some ⟨J, 0, none⟩), vL, .int .i64 0]) ∧ w.heap.size ≤ J ∧ JAt w' J B vE ∧ IR w' w.heap.size vE (endsE 0 xs) ∧ ER w' w.heap.size vL xs ∧ DiskS w' dbase B v' (flatE xs) ((flatE xs).length : Int) m ∧ DStep w w' B v v' := by
  have hblen : b.length ≤ 262144 := by have := hD.len; have := hD.m1; omega
  have HD := Lib.hid hD
  have HB := Lib.hid hB
  have HL := Lib.hid hL
  have HA := Lib.hid (append_is hD none 0 (C_nil w .u8) (by have := hD.len; simp; omega))
  clear hD hB hL
  refine (callsIn_wide (n := 3)).1 ?_
  refine callsIn_of_wp_marks Try.func72 rfl trivial ?_ rfl
  simp only [Try.ntmps72, List.size_toArray, List.length_cons, List.length_nil, Nat.reduceAdd, Nat.reduceSub, Array.replicate_succ, Array.replicate_zero, List.push_toArray, List.append_toArray, List.nil_append, List.cons_append]
  refine wpIn_wide.2 ?_
  go_upto_region 7 with (go_at_call 29; refine HA.out.mono ?_; rintro e w1 ⟨rfl, v1, hd, hst⟩; rw [List.append_nil] at hd; have HD1 := Lib.hid hd; have HS1 := Lib.hid hst; clear hd hst)
  obtain ⟨w2, hw2⟩ : ∃ w2, (((w1.alloc (.cells #[.pointer (some ⟨B, 0, none⟩), .slice none 0 0] 184)).alloc (.cells #[.pointer (some ⟨w1.heap.size, 0, none⟩)] 106)).alloc (.cells #[.slice none 0 0] 69)).alloc (.cells #[.int .i64 0] 3) = w2 := ⟨_, rfl⟩
  have hS2 := jo_start w1 B
  rw [hw2] at hS2 ⊢
  obtain ⟨hs2, hz2, hb2⟩ := hS2
  have HB12 := Lib.hid hb2
  have HO2 := Lib.hid hs2
  have HZ2 := Lib.hid hz2
  have HD2 := Lib.hid (HD1.out.below hb2 (Nat.le_refl _))
  obtain ⟨J, hJ⟩ : ∃ J, w1.heap.size = J := ⟨_, rfl⟩
  rw [hJ] at HZ2 HO2 HB12 ⊢
  rw [show J + 1 + 1 + 1 = J + 3 from rfl, show J + 1 + 1 = J + 2 from rfl]
  have HJ := Lib.hid hJ
  clear hs2 hz2 hb2 hw2 hJ
  go_wp2_with (first
    | (go_at_call 38; refine (bytes_is HD2.out).mono ?_; rintro e w3 ⟨u, rfl, hr, hb⟩; obtain ⟨A2, c2, rfl, hc2, hC2⟩ := BR.len hr; have HB3 := Lib.hid hb; have HR3 := Lib.hid hr; have HC3 := Lib.hid hC2; have HK3 := Lib.hid hc2; clear hr hb hC2 hc2)
    | (go_at_call 135; refine (frames_any _ _ _ _).mono ?_; rintro e w4 ⟨rfl, rfl⟩))
  have hr3 := HR3.out
  obtain ⟨Bb, hBb⟩ : ∃ Bb, w3.heap.size = Bb := ⟨_, rfl⟩
  obtain ⟨w4, hw4⟩ : ∃ w4, w3.alloc (.cells #[.slice A2 b.length c2] 27) = w4 := ⟨_, rfl⟩
  have hX4 : Boxed w4 Bb 27 (.slice A2 b.length c2) := by rw [← hw4, ← hBb]; exact Boxed.new w3 _ _
  have hb34 : Below w3.heap.size w3 w4 := by rw [← hw4]; exact (Below.refl _ _).alloc (Nat.le_refl _) _
  obtain ⟨base, hbs⟩ : ∃ base, w4.heap.size = base := ⟨_, rfl⟩
  have hb1 : base = Bb + 1 := by rw [← hbs, ← hw4, World.size_alloc, hBb]
  have hb2 : J + 4 ≤ Bb := by have := HB3.out.size; have := HZ2.out; omega
  have hA2 : ∀ ad, A2 = some ad → J + 4 ≤ ad.block ∧ ad.block < Bb := fun ad e => by
    have e2 : Value.ownBlock (.slice A2 b.length c2) = some ad.block := by rw [e]; rfl
    exact ⟨by have := R_ge hr3 _ e2; have := HZ2.out; omega, by have := R_lt hr3 _ e2; omega⟩
  rw [hw4, hBb]
  have HC4 := Lib.hid (Kd.C_below HC3.out hb34)
  have hb24 : Below w2.heap.size w2 w4 := HB3.out.trans (hb34.mono HB3.out.size)
  have hI0 : JoS w1 w4 B J base (.slice none 0 0) (.slice none 0 0) 0 [] [] := by
    obtain ⟨s1, s2, s3, s4⟩ := HO2.out
    exact ⟨(hb24.block _ s1.lt).trans s1, (hb24.block _ s2.lt).trans s2, (hb24.block _ s3.lt).trans s3, (hb24.block _ s4.lt).trans s4, Kd.R_nil _ _ _ _ _, Kd.R_nil _ _ _ _ _, by rw [HJ.out]; exact HB12.out.trans (hb24.mono (by have := HZ2.out; omega)), Nat.le_of_eq hbs.symm, Nat.le_of_eq HJ.out, by omega⟩
  have HI0 := Lib.hid hI0
  have HX4 := Lib.hid hX4
  have HA2 := Lib.hid hA2
  have HBS := Lib.hid hbs
  have HB1 := Lib.hid hb1
  clear hr3 hw4 hBb hX4 hb34 hb24 hI0 hA2 hbs hb1 HR3 HC3 HB3 HO2
  refine (wpIn_wide (n := 3)).1 ?_
  refine wpIn_rangeAllX rfl (by decide) (gf := 157) (lb := #[.pointer (some ⟨Bb, 0, none⟩)]) rfl trivial (enters_of Try.func157 (by kernel_rfl) rfl)
    (encs := Fed.encs) (Mv := fun X Y => Below X.heap.size X Y) (Kp := JM (J + 4) base) (S := fun ys => fedX ys = xs) (N := FedN base xs) ?seq
    (fun X Y k o h _ hk => (h.block k (Array.getElem?_eq_some_iff.1 hk).1).trans hk) (fun h k => h.trans k) (fun W l o o' hl h _ => ⟨by simp, fun k _ h2 _ => World.putObj_heap_other (by have := HBS.out; omega)⟩) (fun _ => rfl)
    (fun ys W => ∃ vE vL, JoS w1 W B J base vE vL ((flatE (fedX ys)).length : Int) (endsE 0 (fedX ys)) (fedX ys)) ?hI ?hIr ?h0
    (fun pre f a' W => ∃ vE vL E, JoS w1 W B J base vE vL ((flatE (fedX pre)).length : Int) (endsE 0 (fedX pre)) (fedX pre) ∧ EntAt W E f.x f.A f.c ∧ base ≤ E ∧ TR W base (.slice f.A f.x.f2.f6.length f.c) f.x.f2.f6 ∧ fedX pre ++ [f.x] <+: xs ∧ f.nx = (flatE (fedX pre ++ [f.x])).length ∧
      a' = { tmps := #[.pointer (some ⟨B, 0, none⟩), undef, .pointer none, .slice none 0 0, .int .i64 0, .int .i64 0, .pointer (some ⟨J + 1, 0, none⟩), .pointer (some ⟨J + 2, 0, none⟩), .pointer (some ⟨J + 3, 0, none⟩), .int .i64 f.nx, .pointer (some ⟨E, 0, none⟩), .pointer (some ⟨B, 0, none⟩), .int .i64 0, .int .i64 0, .bool false, undef, .pointer (some ⟨B, 0, none⟩), .agg #[.pointer (some ⟨B, 0, none⟩), .slice none 0 0], .pointer (some ⟨J, 0, none⟩), .pointer (some ⟨B, 0, none⟩), .slice A2 b.length c2, .func (.func 157) #[] #[.pointer (some ⟨Bb, 0, none⟩)], .int .i64 f.nx, .agg #[.int .i64 f.x.f0, .int .i64 f.x.f1, .int .i64 f.x.f2.f0, .int .i64 f.x.f2.f1, .int .i64 f.x.f2.f2, .int .i64 f.x.f2.f3, .int .i64 f.x.f2.f4, .int .i64 f.x.f2.f5, .slice f.A f.x.f2.f6.length f.c, .int .i64 f.x.f2.f7], undef, undef, undef, undef, undef, undef, undef, undef, undef, undef, undef, undef, undef, undef, undef, undef, undef, undef, undef, undef], defers := [] }) ?hIx ?assign ?body ?done
  case seq =>
    intro l J' W hW hJ' hY h0
    refine (frames1_in 2 (by decide) l Bb base A2 c2 b xs r HL.out HB.out HK3.out hblen (fun s X => J' s X ∧ base ≤ X.heap.size) (fun s X Y h hb => ⟨hJ' _ _ _ h.1 hb, Nat.le_trans h.2 hb.size⟩) ?_ W (by have := hW.size; have := HBS.out; omega)
      ((hW.block _ HX4.out.lt).trans HX4.out) (Kd.C_below HC4.out hW) ⟨h0, by have := hW.size; have := HBS.out; omega⟩ (fun _ _ h => h.2)).mono ?_
    · intro pre f W1 h1 h2
      obtain ⟨fn, tmps, assign, body, hy, hR⟩ := hY pre f W1 h1.1 h2
      refine ⟨fn, tmps, assign, body, hy, hR.mono ?_⟩
      rintro e W' ⟨he, hj, hk⟩
      exact ⟨he, ⟨hj, Nat.le_trans h1.2 hk.1⟩, hk.2 Bb hb2 (by have := HB1.out; omega) (by have := HB1.out; have := h1.2; omega), fun ad e => by
        obtain ⟨q1, q2⟩ := HA2.out ad e
        exact hk.2 _ q1 (by have := HB1.out; omega) (by have := HB1.out; have := h1.2; omega)⟩
    · rintro e W' ⟨h1, ys, h2, h3⟩
      exact ⟨h1, ys, h2, h3.1⟩
  case hI =>
    rintro ys X Y row ⟨vE, vL, h⟩ hg hr
    exact ⟨vE, vL, h.nc hg (fun r e => by rw [← HBS.out]; exact hr r e)⟩
  case hIr =>
    rintro ys X Y ⟨vE, vL, h⟩ hb
    exact ⟨vE, vL, h.below hb⟩
  case h0 => exact ⟨_, _, HI0.out⟩
  case hIx =>
    rintro pre f a' _ X Y row ⟨vE, vL, E, h1, h2, h3, h4, h5, h6, h7⟩ hg hr
    exact ⟨vE, vL, E, h1.nc hg (fun r e => by rw [← HBS.out]; exact hr r e), (hg.block _ h2.lt (fun e => by obtain ⟨_, o, ho, hc⟩ := hr _ e.symm; rw [show X.heap[E]? = _ from h2] at ho; cases ho; cases hc)).trans h2, h3, R_nc h4 hg (fun r e => (hr r e).2), h5, h6, h7⟩
  case assign =>
    rintro l pre f W K ⟨vE, vL, hI⟩ ⟨n1, n2, n3, n4⟩ hK
    have HI := Lib.hid hI
    have HN := Lib.hid n4
    have HN1 := Lib.hid n1
    have HN2 := Lib.hid n2
    clear hI n1 n2 n4
    gi_wp2
    have hb : Below W.heap.size W (W.alloc (.cells #[.int .i64 f.x.f0, .int .i64 f.x.f1, .int .i64 f.x.f2.f0, .int .i64 f.x.f2.f1, .int .i64 f.x.f2.f2, .int .i64 f.x.f2.f3, .int .i64 f.x.f2.f4, .int .i64 f.x.f2.f5, .slice f.A f.x.f2.f6.length f.c, .int .i64 f.x.f2.f7] 26)) := (Below.refl _ _).alloc (Nat.le_refl _) _
    exact hK _ _ ((JK.of_below (lo := J + 4) (base := base) hb).kf _) (JK.of_below hb).jm ⟨vE, vL, W.heap.size, HI.out.below hb, World.alloc_heap_new W _, HI.out.sz, Kd.R_below HN.out hb, HN1.out, HN2.out, rfl⟩
  case body =>
    rintro l pre f a' W ⟨vE, vL, E, h1, h2, h3, h4, h5, h6, rfl⟩
    obtain ⟨es, hes⟩ : ∃ es, endsE 0 (fedX pre) = es := ⟨_, rfl⟩
    obtain ⟨ps, hps⟩ : ∃ ps, fedX pre = ps := ⟨_, rfl⟩
    have hlen : es.length ≤ 60000 ∧ ps.length ≤ 60000 := by
      have e1 : es.length = (fedX pre).length := by rw [← hes, endsE_length]
      have e2 := congrArg List.length hps
      have e3 := flat_len_ge xs
      have e4 := HL.out.len
      have e5 := h5.length_le
      rw [List.length_append] at e5
      omega
    have HEL : Hid ((es.length + 1) * 8 ≤ 140737488355328) := Lib.hid (by omega)
    have HPL : Hid ((ps.length + 1) * 96 ≤ 140737488355328) := Lib.hid (by omega)
    have HES : Hid (endsE 0 (fedX (pre ++ [f])) = es ++ [(f.nx : Int)]) := Lib.hid (by unfold fedX; rw [List.map_append, List.map_cons, List.map_nil, endsE_snoc, Nat.zero_add]; rw [← hes, h6]; rfl)
    have HPS : Hid (fedX (pre ++ [f]) = ps ++ [f.x]) := Lib.hid (by unfold fedX; rw [List.map_append, List.map_cons, List.map_nil]; rw [← hps]; rfl)
    have HNX : Hid (((flatE (fedX (pre ++ [f]))).length : Int) = (f.nx : Int)) := Lib.hid (by unfold fedX; rw [List.map_append, List.map_cons, List.map_nil]; rw [h6]; rfl)
    rw [hes, hps] at h1
    have hbd : Below W.heap.size W W.drew := below_drew1 (Below.refl _ _)
    have HJ0 := Lib.hid (h1.below hbd)
    have HE0 := Lib.hid (h2.below hbd)
    have HT0 := Lib.hid (Kd.R_below h4 hbd)
    have HK0 := Lib.hid (JK.of_below (lo := J + 4) (base := base) hbd)
    obtain ⟨AE, cE, rfl, _, _⟩ := IR.len h1.ends
    obtain ⟨AL, cL, rfl, _, _⟩ := ER.C h1.ents
    have HE3 := Lib.hid h3
    clear hes hps hlen h1 h2 h3 h4 h5 h6 hbd
    gi_wp2
    refine start_in (n := 11) (S := fun w' => w'.cell? ⟨J + 1, 0, none⟩ = some (.pointer (some ⟨J, 0, none⟩)) ∧ w'.cell? ⟨J, 1, none⟩ = some (.slice AE es.length cE)) (ds := [10]) #[false, false, false, false, false, false, false, false, false, false, false] (by kernel_rfl) (by kernel_rfl) (by rintro ⟨_, _, h⟩; exact h) rfl rfl ⟨HJ0.out.jv.cell, HJ0.out.jr.c1⟩ (fun hHeld => ?_); refine with_tabW jopR10.tab jopR10.bits (fun HT_ HW_ => ?_)
    obtain ⟨WD, hWD⟩ : ∃ X, W.drew = X := ⟨_, rfl⟩
    rw [hWD] at hHeld HJ0 HE0 HT0 HK0 ⊢
    have HJD := HJ0
    clear hWD
    refine pure_ (i := 5) (N := (some 29)) (v := ?_) (a' := ?_) #[false, false, false, false, false, true, false, false, false, false, false] rfl rfl (any_of HT_.out (by kernel_rfl)) (fun _ _ _ h => h) (Or.inl ⟨by rfl, ?_⟩) ?_ ?_
    rotate_left
    · intro w'
      go_simp
      with_reducible rfl
    rotate_left
    · simp only [Act.put, List.setIfInBounds_toArray, List.set_cons_zero, List.set_cons_succ, i64_w, i32_w]
      rfl
    refine take_ (i := 0) (N := (some 24)) (v := ?_) (a' := ?_) #[true, false, false, false, false, true, false, false, false, false, false] rfl rfl (take_ofW HT_.out HW_.out (by kernel_rfl)) (fun _ _ _ h => h) (Or.inl ⟨by rfl, ?_⟩) hHeld ?_ ?_
    rotate_left
    · rintro w' ⟨s0, s1⟩
      go_simp
      with_reducible rfl
    rotate_left
    · simp only [Act.put, List.setIfInBounds_toArray, List.set_cons_zero, List.set_cons_succ, i64_w, i32_w]
      rfl
    refine take_ (i := 1) (N := (some 25)) (v := ?_) (a' := ?_) #[true, true, false, false, false, true, false, false, false, false, false] rfl rfl (take_ofW HT_.out HW_.out (by kernel_rfl)) (fun _ _ _ h => h) (Or.inl ⟨by rfl, ?_⟩) hHeld ?_ ?_
    rotate_left
    · rintro w' ⟨s0, s1⟩
      go_simp
      with_reducible rfl
    rotate_left
    · simp only [Act.put, List.setIfInBounds_toArray, List.set_cons_zero, List.set_cons_succ, i64_w, i32_w]
      rfl
    refine pure_ (i := 2) (N := (some 26)) (v := ?_) (a' := ?_) #[true, true, true, false, false, true, false, false, false, false, false] rfl rfl (any_of HT_.out (by kernel_rfl)) (fun _ _ _ h => h) (Or.inl ⟨by rfl, ?_⟩) ?_ ?_
    rotate_left
    · intro w'
      go_simp
      with_reducible rfl
    rotate_left
    · simp only [Act.put, List.setIfInBounds_toArray, List.set_cons_zero, List.set_cons_succ, i64_w, i32_w]
      rfl
    refine pure_ (i := 3) (N := (some 27)) (v := ?_) (a' := ?_) #[true, true, true, true, false, true, false, false, false, false, false] rfl rfl (any_of HT_.out (by kernel_rfl)) (fun _ _ _ h => h) (Or.inl ⟨by rfl, ?_⟩) ?_ ?_
    rotate_left
    · intro w'
      go_simp
      with_reducible rfl
    rotate_left
    · simp only [Act.put, List.setIfInBounds_toArray, List.set_cons_zero, List.set_cons_succ, i64_w, i32_w]
      rfl
    refine take_ (i := 4) (N := (some 28)) (v := ?_) (a' := ?_) #[true, true, true, true, true, true, false, false, false, false, false] rfl rfl (take_ofW HT_.out HW_.out (by kernel_rfl)) (fun _ _ _ h => h) (Or.inl ⟨by rfl, ?_⟩) hHeld ?_ ?_
    rotate_left
    · rintro w' ⟨s0, s1⟩
      go_simp
      with_reducible rfl
    rotate_left
    · simp only [Act.put, List.setIfInBounds_toArray, List.set_cons_zero, List.set_cons_succ, i64_w, i32_w]
      rfl
    refine one_ (i := 6) (N := (some 30)) #[true, true, true, true, true, true, true, false, false, false, false] rfl rfl (one_of HT_.out (by kernel_rfl)) (by decide) (fun K hK => ?_)
    refine value_ (w1 := WD.alloc (.cells #[.int .i64 f.nx] 3)) (v := .slice (some ⟨WD.heap.size, 0, none⟩) 1 1) (by rfl) rfl ?_ ?_
    · go_simp
      try rfl
    refine hK.out _ _ ⟨(HJD.out.below ((Below.refl WD.heap.size WD).alloc (Nat.le_refl _) (.cells #[.int .i64 f.nx] 3))).jv.cell, (HJD.out.below ((Below.refl WD.heap.size WD).alloc (Nat.le_refl _) (.cells #[.int .i64 f.nx] 3))).jr.c1⟩ (fun hHeld => ?_)
    clear hK K
    refine norm_ (a' := ?_) ?_ ?_
    rotate_left
    · show Act.put _ (some 30) _ = _
      simp only [Act.put, List.setIfInBounds_toArray, List.set_cons_zero, List.set_cons_succ, i64_w, i32_w]
      rfl
    refine one_ (i := 7) (N := (some 31)) #[true, true, true, true, true, true, true, true, false, false, false] rfl rfl (one_of HT_.out (by kernel_rfl)) (by decide) (fun K hK => ?_)
    refine Kd.R_append_step (Kd.int .i64) (w0 := WD) (W := WD) base (by rfl) (.tmp 28) (.tmp 30) 42 3 (.int .i64 0) 8 rfl Try.underlying42 info_int rfl (by decide) (by decide) (.slice AE es.length cE) es (f.nx : Int) [.int .i64 (f.nx : Int)] (fun _ => True) (fun _ => False) rfl rfl rfl (fun _ h => h.elim) (fun _ _ => trivial) HJD.out.ends (Below.refl _ _) HJD.out.sz HEL.out ?_
    intro v4 w4 hr4 hb4 hg4 hat4
    have HG4 := Lib.hid hg4
    obtain ⟨zs, hzs⟩ : ∃ zs, es ++ [(f.nx : Int)] = zs := ⟨_, rfl⟩
    rw [hzs] at hr4
    have HZS := Lib.hid hzs
    obtain ⟨A5, k5, rfl, _, _⟩ := IR.len hr4
    have HR4 := Lib.hid hr4
    obtain ⟨hh1, hh2, hh3⟩ := HJD.out.held hg4
    clear hr4 hb4 hg4 hat4 hzs
    refine hK.out _ _ ⟨hh1, hh2⟩ (fun hHeld => ?_)
    clear hK K
    refine norm_ (a' := ?_) ?_ ?_
    rotate_left
    · show Act.put _ (some 31) _ = _
      simp only [Act.put, List.setIfInBounds_toArray, List.set_cons_zero, List.set_cons_succ, i64_w, i32_w]
      rfl
    refine pure_ (i := 8) (N := (some 32)) (v := ?_) (a' := ?_) #[true, true, true, true, true, true, true, true, true, false, false] rfl rfl (any_of HT_.out (by kernel_rfl)) (fun _ _ _ h => h) (Or.inl ⟨by rfl, ?_⟩) ?_ ?_
    rotate_left
    · intro w'
      go_simp
      with_reducible rfl
    rotate_left
    · simp only [Act.put, List.setIfInBounds_toArray, List.set_cons_zero, List.set_cons_succ, i64_w, i32_w]
      rfl
    refine pure_ (i := 9) (N := (some 33)) (v := ?_) (a' := ?_) #[true, true, true, true, true, true, true, true, true, true, false] rfl rfl (any_of HT_.out (by kernel_rfl)) (fun _ _ _ h => h) (Or.inl ⟨by rfl, ?_⟩) ?_ ?_
    rotate_left
    · intro w'
      go_simp
      with_reducible rfl
    rotate_left
    · simp only [Act.put, List.setIfInBounds_toArray, List.set_cons_zero, List.set_cons_succ, i64_w, i32_w]
      rfl
    refine last_ (i := 10) (N := none) #[true, true, true, true, true, true, true, true, true, true, true] rfl rfl (one_of HT_.out (by kernel_rfl)) (by decide) (fun K hK => ?_)
    refine skip_ (w1 := w4.setCell ⟨J, 1, none⟩ (.slice A5 zs.length k5)) (by rfl) rfl ?_ ?_
    · go_simp
      try rfl
    refine hK.out _ _ ?_
    clear hK K
    refine done_ (done_of HT_.out (by kernel_rfl)) ?_
    have hJ5 := HJD.out.putE HG4.out HR4.out
    have HK5 := Lib.hid (HK0.out.trans (HJD.out.keepE (v' := .slice A5 zs.length k5) HG4.out))
    have hEne : some E ≠ (Value.slice AE es.length cE).ownBlock := fun e => by
      obtain ⟨cs, hc⟩ := R_typ HJD.out.ends _ e.symm
      rw [show WD.heap[E]? = _ from HE0.out] at hc
      cases hc
    have HE5 : Hid (EntAt (w4.setCell ⟨J, 1, none⟩ (.slice A5 zs.length k5)) E f.x f.A f.c) := Lib.hid ((Below.heap_setCell _ _ _ _ (by show E ≠ J; have := HJD.out.j1; have := HE3.out; omega)).trans ((HG4.out.block _ HE0.out.lt hEne).trans HE0.out))
    have HT5 : Hid (TR (w4.setCell ⟨J, 1, none⟩ (.slice A5 zs.length k5)) base (.slice f.A f.x.f2.f6.length f.c) f.x.f2.f6) := Lib.hid (TR.set (R_typed HT0.out (t := 3) (by decide) HG4.out (R_typ HJD.out.ends)) (by have := HJD.out.j1; omega) 1 _)
    have HJ5 := Lib.hid hJ5
    obtain ⟨w5, hw5⟩ : ∃ w5, w4.setCell ⟨J, 1, none⟩ (.slice A5 zs.length k5) = w5 := ⟨_, rfl⟩
    rw [hw5] at HJ5 HK5 HE5 HT5 ⊢
    clear hJ5 hEne hw5 HR4 HG4 HJD HJ0 HK0 HE0 HT0 hHeld
    obtain ⟨q0, q1, q2, q3, q4, q5, q6, q7, q8, q9⟩ := HE5.out.c
    have cL5 := HJ5.out.lv.cell
    gi_wp2_with (gi_at_builtin; refine stepIn_of (by rfl) (by intro c h; cases h) ?_; refine Kd.R_append_step Go.Proofs.Ytmbnjgnmblgjoaa.K.k26 (w0 := w5) (W := w5) base (by rfl) (.tmp 34) (.tmp 36) 69 26 (.agg #[.int .i64 0, .int .i64 0, .int .i64 0, .int .i64 0, .int .i64 0, .int .i64 0, .int .i64 0, .int .i64 0, .slice none 0 0, .int .i64 0]) 96 rfl Try.underlying69 info_ent rfl (by decide) (by decide) (.slice AL ps.length cL) ps f.x [.int .i64 f.x.f0, .int .i64 f.x.f1, .int .i64 f.x.f2.f0, .int .i64 f.x.f2.f1, .int .i64 f.x.f2.f2, .int .i64 f.x.f2.f3, .int .i64 f.x.f2.f4, .int .i64 f.x.f2.f5, .slice f.A f.x.f2.f6.length f.c, .int .i64 f.x.f2.f7] (fun _ => True) (fun j => some j = (Value.slice f.A f.x.f2.f6.length f.c).ownBlock) rfl rfl (Go.Proofs.Ytmbnjgnmblgjoaa.K.k26_mkM _ _ _ _ (TR.tight HT5.out)) (fun j hj => ⟨trivial, fun e => apart_types (R_typ HT5.out j hj.symm) (R_typ HJ5.out.ents j e.symm) (by decide)⟩) (fun _ _ => trivial) HJ5.out.ents (Below.refl _ _) HJ5.out.sz HPL.out ?_; intro v6 w6 hr6 hb6 hg6 hat6; obtain ⟨zl, hzl⟩ : ∃ zl, ps ++ [f.x] = zl := ⟨_, rfl⟩; rw [hzl] at hr6; obtain ⟨A6, k6, rfl, _, _⟩ := ER.C hr6; have HZL := Lib.hid hzl; have HR6 := Lib.hid hr6; have HG6 := Lib.hid hg6; obtain ⟨hc6, hf6⟩ := HJ5.out.held2 hg6; have HJ7 := Lib.hid (HJ5.out.putL hg6 hr6); have HK7 := Lib.hid (HK5.out.trans (HJ5.out.keepL (v' := .slice A6 zl.length k6) hg6)); have hc7 := HJ7.out.av.cell; have hf7 := HJ7.out.av.frozen; clear hr6 hb6 hg6 hat6 hzl q0 q1 q2 q3 q4 q5 q6 q7 q8 q9 cL5)
    have hJ8 := HJ7.out.putA (f.nx : Int)
    have hK8 := HK7.out.trans (HJ7.out.keepA (f.nx : Int))
    refine ⟨hK8.kf _, hK8.jm, .slice A5 zs.length k5, .slice A6 zl.length k6, ?_⟩
    rw [HNX.out, HES.out, HPS.out, HZS.out, HZL.out]
    exact hJ8
  case done =>
    rintro D ys W hD hys ⟨vE, vL, hI⟩ hdf
    rw [hys] at hI
    have HI := Lib.hid hI
    have HDF := Lib.hid hdf
    have hDW := HD1.out.below HI.out.bel (Nat.le_refl _)
    have HC := Lib.hid (cut_is hDW (flatE xs).length HL.out.len)
    have ca := hI.av.cell
    obtain ⟨AE, cE, rfl, _, _⟩ := IR.len hI.ends
    obtain ⟨AL, cL, rfl, _, _⟩ := ER.C hI.ents
    clear hI hdf hDW
    go_wp2_with (go_at_call 35; refine HC.out.mono ?_; rintro e w8 ⟨rfl, v8, hd, hst⟩; have HD8 := Lib.hid hd; have HS8 := Lib.hid hst; clear hd hst)
    have hBJ : B < J ∧ (∀ k, v1.ownBlock = some k → k < J) := ⟨by have := HD1.out.cells.lt; have := HJ.out; omega, fun k hk => by have := (HD1.out.row.block hk).2.1; have := HJ.out; omega⟩
    have hmv : ∀ k, k < W.heap.size → J ≤ k → w8.heap[k]? = W.heap[k]? := fun k hk hj => HS8.out.block k hk (by omega) (fun e => by have := hBJ.2 _ e.symm; omega)
    have j1 := HI.out.j1
    have hJ8 : JAt w8 J B (.slice AE (endsE 0 xs).length cE) := HI.out.jr.ne (hmv _ HI.out.jr.lt (Nat.le_refl _))
    have hV8 : Boxed w8 (J + 1) 106 (.pointer (some ⟨J, 0, none⟩)) := (hmv _ HI.out.jv.lt (by omega)).trans HI.out.jv
    have hL8 : Boxed w8 (J + 2) 69 (.slice AL xs.length cL) := (hmv _ HI.out.lv.lt (by omega)).trans HI.out.lv
    have hE8 : IR w8 base (.slice AE (endsE 0 xs).length cE) (endsE 0 xs) := Kd.R_mono (Kd.R_move (Kd.R_bound HI.out.ends) (fun k hk => hmv k hk.2.2.1 (by have := hk.2.1; omega))) (fun _ _ => trivial)
    have hX8 : ER w8 base (.slice AL xs.length cL) xs := Kd.R_mono (Kd.R_move (Kd.R_bound HI.out.ents) (fun k hk => hmv k hk.2.2.1 (by have := hk.2.1; omega))) (fun _ _ => trivial)
    have hM8 : w8.heap[D]? = some (.deferred (some [])) := (hmv D (Array.getElem?_eq_some_iff.1 HDF.out).1 (by have := HBS.out; omega)).trans HDF.out
    have hS8 : DStep w w8 B v v8 := HS1.out.then_ ((DStep.of_below_ B v1 HI.out.bel).then_ HS8.out)
    have c1 := hV8.cell
    have c2 := hL8.cell
    have H1 := Lib.hid hJ8
    have H2 := Lib.hid hE8
    have H3 := Lib.hid hX8
    have H4 := Lib.hid hM8
    have H5 := Lib.hid hS8
    have HN0 : Hid (w.heap.size ≤ J ∧ w.heap.size ≤ D ∧ w.heap.size ≤ base) := Lib.hid (by have := HS1.out.size; have := HJ.out; have := HBS.out; omega)
    clear hBJ hmv j1 hJ8 hV8 hL8 hE8 hX8 hM8 hS8
    go_quiet (fail)
    go_wp2
    refine leaves_marks (n0 := w.heap.size) [{ target := .collected D, args := #[] }] _ ⟨⟨D, rfl, HN0.out.2.1, by simpa using H4.out, fun d hd => by cases hd⟩, trivial⟩ (fun W' hs => ?_)
    refine ⟨.tuple #[.pointer (some ⟨J, 0, none⟩), .slice AL xs.length cL, .int .i64 0], by simp [results, Try.results72, go_sem], J, .slice AE (endsE 0 xs).length cE, _, v8, rfl, HN0.out.1, ?_, ?_, ?_, ?_, ?_⟩
    · exact hs.cells _ _ (show (w8.drewN nq).heap[J]? = _ from ((pw_below_drewN (Below.refl _ _) nq : Below w8.heap.size w8 (w8.drewN nq)).block _ H1.out.lt).trans H1.out) rfl
    · exact R_cells (Kd.R_lower (Kd.R_below H2.out (pw_below_drewN (Below.refl _ _) nq)) HN0.out.2.2) hs.cells
    · exact R_cells (Kd.R_lower (Kd.R_below H3.out (pw_below_drewN (Below.refl _ _) nq)) HN0.out.2.2) hs.cells
    · have := (HD8.out.below (pw_below_drewN (Below.refl _ _) nq) (Nat.le_refl _)).shut hs
      rwa [HL.out.take] at this
    · exact (H5.out.then_ (DStep.of_below_ B v8 (pw_below_drewN (Below.refl _ _) nq))).shut hs
end Go.Proofs.Ytmbnjgnmblgjoaa.Man
end

-- JAppBase
section
/- A journal: its state, its small acts; an append behind a row whose capacity ends with it; an entry's frame. -/

namespace Go.Proofs.Ytmbnjgnmblgjoaa.Man
open Go.RowKit Go.Shelf Go.Proofs.YtmbnjgnmblgjoaaW.PrintWords Go.Proofs.YtmbnjgnmblgjoaaW.PrintLast Go.Proofs.YtmbnjgnmblgjoaaW.PrintMore
set_option linter.unusedVariables false
set_option linter.unusedSimpArgs false
set_option maxRecDepth 100000

/-- What keeps an entry out of a log. -/
def frameErr (x : K.S26) : Int := if entryE x = 0 then (wrapF (entryB x)).2 else entryE x
/-- A journal on a disk. -/
structure JS (w : World) (base J D : Nat) (vE v : Value) (es b : List Int) (s m : Int) : Prop where
  jat : JAt w J D vE
  row : ∃ A c, vE = .slice A es.length c ∧ es.length ≤ c ∧ Kd.C (Kd.int .i64) w A es.length es
  typ : ∀ k, vE.ownBlock = some k → base ≤ k ∧ ∃ cs, w.heap[k]? = some (.cells cs 3 (0, 0))
  disk : DiskS w base D v b s m
  jge : base ≤ J
/-- What an act on a journal may turn: its block, its disk's; what is new. -/
structure JStep (w w' : World) (J D : Nat) (v v' vE vE' : Value) : Prop where
  os : w'.os = w.os
  tape : w'.tape = w.tape
  output : w'.output = w.output
  size : w.heap.size ≤ w'.heap.size
  block : ∀ k, k < w.heap.size → k ≠ J → k ≠ D → some k ≠ v.ownBlock → w'.heap[k]? = w.heap[k]?
  row : v'.ownBlock = v.ownBlock ∨ ∃ b, v'.ownBlock = some b ∧ w.heap.size ≤ b
  ends : vE'.ownBlock = vE.ownBlock ∨ vE'.ownBlock = none ∨ ∃ b, vE'.ownBlock = some b ∧ w.heap.size ≤ b
section
variable {w w1 w2 : World} {base J D J' D' : Nat} {vE v vE' v' uE u : Value} {es es' b b' : List Int} {s m s' m' : Int}
theorem JS.lt (h : JS w base J D vE v es b s m) : J < w.heap.size := h.jat.lt
theorem C_typ {w w1 : World} {A : Option Addr} {n c : Nat} {xs : List Int} (h : Kd.C (Kd.int .i64) w A n xs) (hm : ∀ k, (Value.slice A n c).ownBlock = some k → w1.heap[k]? = w.heap[k]?) : Kd.C (Kd.int .i64) w1 A n xs :=
  C_moveK h (fun ad e => hm _ (by rw [e]; rfl))
/-- Its blocks stand: so does the journal; its disk is told anew. -/
theorem JS.move (h : JS w base J D vE v es b s m) (hJ : w1.heap[J]? = w.heap[J]?) (hE : ∀ k, vE.ownBlock = some k → w1.heap[k]? = w.heap[k]?) (hd : DiskS w1 base D v' b' s' m') : JS w1 base J D vE v' es b' s' m' := by
  obtain ⟨A, c, rfl, hc, hC⟩ := h.row
  exact ⟨h.jat.ne hJ, ⟨A, c, rfl, hc, C_typ hC hE⟩, fun k hk => ⟨(h.typ k hk).1, by rw [hE k hk]; exact (h.typ k hk).2⟩, hd, h.jge⟩
theorem JS.elt (h : JS w base J D vE v es b s m) (k : Nat) (hk : vE.ownBlock = some k) : k < w.heap.size := by
  obtain ⟨_, cs, hc⟩ := h.typ k hk
  exact (Array.getElem?_eq_some_iff.1 hc).1
theorem JS.below {n : Nat} (h : JS w base J D vE v es b s m) (hb : Below n w w1) (hn : w.heap.size ≤ n) : JS w1 base J D vE v es b s m :=
  h.move (hb.block _ (by have := h.lt; omega)) (fun k hk => hb.block _ (by have := h.elt k hk; omega)) (h.disk.below hb hn)
theorem JS.neD (h : JS w base J D vE v es b s m) : J ≠ D := fun e => by
  have h1 := h.jat
  have h2 := h.disk.cells
  subst e
  unfold JAt at h1
  unfold DiskAt at h2
  rw [h1] at h2
  cases h2
theorem JS.neV (h : JS w base J D vE v es b s m) : some J ≠ v.ownBlock := fun e => by
  obtain ⟨_, _, cur, hc⟩ := h.disk.row.block e.symm
  rw [show w.heap[J]? = _ from h.jat] at hc
  cases hc
theorem JS.eneD (h : JS w base J D vE v es b s m) (k : Nat) (hk : vE.ownBlock = some k) : k ≠ D := fun e => by
  obtain ⟨_, cs, hc⟩ := h.typ k hk
  subst e
  rw [show w.heap[k]? = _ from h.disk.cells] at hc
  cases hc
theorem JS.eneV (h : JS w base J D vE v es b s m) (k : Nat) (hk : vE.ownBlock = some k) : some k ≠ v.ownBlock := fun e => by
  obtain ⟨_, cs, hc⟩ := h.typ k hk
  obtain ⟨_, _, cur, hc'⟩ := h.disk.row.block e.symm
  rw [hc] at hc'
  cases hc'
/-- An act of its disk. -/
theorem JS.acted (h : JS w base J D vE v es b s m) (st : DStep w w1 D v v') (hd : DiskS w1 base D v' b' s' m') : JS w1 base J D vE v' es b' s' m' :=
  h.move (st.block _ h.lt h.neD h.neV) (fun k hk => st.block _ (h.elt k hk) (h.eneD k hk) (h.eneV k hk)) hd
theorem JStep.of_below (J D : Nat) (v vE : Value) (h : Below w.heap.size w w1) : JStep w w1 J D v v vE vE := ⟨h.os, h.tape, h.output, h.size, fun k hk _ _ _ => h.block k hk, .inl rfl, .inl rfl⟩
theorem JStep.trans {v1 v2 e0 e1 e2 : Value} (h : JStep w w1 J D v v1 e0 e1) (k : JStep w1 w2 J D v1 v2 e1 e2) : JStep w w2 J D v v2 e0 e2 := by
  refine ⟨k.os.trans h.os, k.tape.trans h.tape, k.output.trans h.output, Nat.le_trans h.size k.size, fun j hj hJ hD hv => (k.block j (by have := h.size; omega) hJ hD ?_).trans (h.block j hj hJ hD hv), ?_, ?_⟩
  · rcases h.row with e | ⟨b, e, hb⟩
    · rw [e]; exact hv
    · rw [e]; intro q; cases q; omega
  · rcases k.row with e | ⟨b, e, hb⟩
    · rw [e]; exact h.row
    · exact .inr ⟨b, e, by have := h.size; omega⟩
  · rcases k.ends with e | e | ⟨b, e, hb⟩
    · rw [e]; exact h.ends
    · exact .inr (.inl e)
    · exact .inr (.inr ⟨b, e, by have := h.size; omega⟩)
theorem jnone_is (h : JS w base J D vE v es b s m) : Calls Try.prog 137 #[.pointer (some ⟨J, 0, none⟩)] w fun e w' => e = .returned (.bool false) ∧ w = w' := by
  have c0 := h.jat.c0
  clear h
  go_enter Try.func137, Try.ntmps137
  go_wp2
  go_ret
  exact ⟨rfl, rfl⟩
theorem jlen_is (h : JS w base J D vE v es b s m) : Calls Try.prog 74 #[.pointer (some ⟨J, 0, none⟩)] w fun e w' => e = .returned (.int .i64 (es.length : Int)) ∧ w = w' := by
  have c1 := h.jat.c1
  obtain ⟨A, c, rfl, hc, hC⟩ := h.row
  have H := Lib.hid h
  clear h hC
  go_enter Try.func74, Try.ntmps74
  go_wp2_with (go_at_call 137; refine (jnone_is H.out).mono ?_; rintro e w' ⟨rfl, rfl⟩)
  go_ret
  exact ⟨rfl, rfl⟩
end
end Go.Proofs.Ytmbnjgnmblgjoaa.Man
end

-- JAwake
section
/- Law 18's awake. -/

namespace Go.Proofs.Ytmbnjgnmblgjoaa.Man
open Go.RowKit Go.Shelf Go.Proofs.YtmbnjgnmblgjoaaW.PrintWords Go.Proofs.YtmbnjgnmblgjoaaW.PrintLast Go.Proofs.YtmbnjgnmblgjoaaW.PrintMore
set_option linter.unusedVariables false
set_option linter.unusedSimpArgs false
set_option maxRecDepth 100000

theorem log_nil : LogOf [] [] [] := ⟨rfl, fun x hx => (by cases hx), stop_nil⟩
set_option maxHeartbeats 4000000 in
theorem awake18_is (w : World) : Calls Try.prog 71 #[] w fun e w' => e = .returned (.bool true) ∧ Below w.heap.size w w' := by
  go_enter Try.func71, Try.ntmps71
  go_wp2_with (first
    | (go_at_call 26; refine (new_is 9 w w.heap.size (Nat.le_refl _) (by decide) (by decide)).mono ?_; rintro e w1 ⟨rfl, hd, hb⟩; have HD := Lib.hid hd; have HB := Lib.hid hb; clear hd hb)
    | (go_at_call 72; refine (jopen_is HD.out rfl log_nil).mono ?_; rintro e w2 ⟨J, vE, vL, v', rfl, hJ, hj, he, hl, hd, hs⟩; have HB2 := Lib.hid (HB.out.trans (hs.below HD.out)); obtain ⟨AL, cL, rfl, _, _⟩ := ER.C hl; clear hj he hl hd hs))
  go_ret
  exact ⟨rfl, HB2.out⟩
/-- The journal that an opening makes. -/
theorem JS.made {w w' : World} {base J B : Nat} {vE v' : Value} {es b : List Int} {s m : Int} (hb : base ≤ w.heap.size) (hJ : w.heap.size ≤ J) (hj : JAt w' J B vE) (he : IR w' w.heap.size vE es) (hd : DiskS w' base B v' b s m) : JS w' base J B vE v' es b s m :=
  ⟨hj, IR.len he, fun k hk => ⟨by have := R_ge he k hk; omega, R_typ he k hk⟩, hd, by omega⟩
/-- Rows of other types stand behind an act on a disk. -/
theorem DStep.Rt {α : Type} {d : Kd α} {e base base' B : Nat} {w w1 : World} {v v' u : Value} {ys : List α} {xs : List Int} {s m : Int} (st : DStep w w1 B v v') (hd : DiskS w base' B v xs s m) (h : d.R e w base (fun _ => True) u ys) (h1 : 5 ∉ e :: d.E) (h2 : 148 ∉ e :: d.E) : d.R e w1 base (fun _ => True) u ys :=
  Kd.R_mono (Kd.R_move (Kd.R_bound h) (fun k hk => by
    obtain ⟨_, _, hlt, q, hq, cs, hc⟩ := hk
    refine st.block k hlt (fun e => ?_) (fun e => ?_)
    · subst e
      rw [show w.heap[k]? = _ from hd.cells] at hc
      cases hc
      exact h2 hq
    · obtain ⟨_, _, cur, hc'⟩ := hd.row.block e.symm
      rw [hc] at hc'
      cases hc'
      exact h1 hq)) (fun _ _ => trivial)
end Go.Proofs.Ytmbnjgnmblgjoaa.Man
end

-- Ent18
section
/- Law 18's own comparisons at equal arguments: true. Printed by wip/tools/gen_ent18.py. -/

namespace Go.Proofs.Ytmbnjgnmblgjoaa.Man
open Go.RowKit Go.Proofs.YtmbnjgnmblgjoaaW.PrintWords Go.Proofs.YtmbnjgnmblgjoaaW.PrintLast Go.Proofs.YtmbnjgnmblgjoaaW.PrintMore
set_option linter.unusedVariables false
set_option linter.unusedSimpArgs false
set_option maxRecDepth 100000
attribute [local go_sem high] K.eqA111

set_option maxHeartbeats 4000000 in
theorem alike18_yes (w : World) (A B : Option Addr) (c d : Nat) (l : List K.S111) (hr : Kd.C K.k111 w A l.length l) (hr' : Kd.C K.k111 w B l.length l) :
    Calls Try.prog 158 #[.slice A l.length c, .slice B l.length d] w fun e w' => e = .returned (.bool true) ∧ Below w.heap.size w w' := by
  have hl : l.length ≤ 9223372036854775807 := hr.2.1
  have HR := Lib.hid hr
  have HR' := Lib.hid hr'
  clear hr hr'
  go_enter Try.func158, Try.ntmps158
  go_wp2
  go_loopg [5] l.length (fun g s5 wr => ∃ i m : Nat, s5 = .int .i64 i ∧ i ≤ l.length ∧ g = l.length - i ∧ wr = w.drewN m)
  case atStart => exact ⟨0, 0, rfl, Nat.zero_le _, rfl, rfl⟩
  case round =>
    obtain ⟨i, m, rfl, hi, hg, rfl⟩ := hrel
    by_cases hlt : i < l.length
    · obtain ⟨ad, e1, a0, a1, a2, a3⟩ := K.at_T111 HR.out (i : Int) (by omega) (by omega)
      obtain ⟨ad', e2, b0, b1, b2, b3⟩ := K.at_T111 HR'.out (i : Int) (by omega) (by omega)
      subst e1; subst e2
      rw [Int.toNat_natCast] at a0 a1 a2 a3 b0 b1 b2 b3
      generalize K.rd_T111 l i = x at a0 a1 a2 a3 b0 b1 b2 b3
      go_wp2
      go_quiet (fail)
      go_wp2
      go_roundg (l.length - (i + 1))
      case measure => omega
      case rel => exact ⟨i + 1, _, by go_num, by omega, rfl, rfl⟩
    · obtain rfl : i = l.length := by omega
      go_wp2
      go_ret
      exact ⟨rfl, pw_below_drewN (Below.refl _ _) m⟩
set_option maxHeartbeats 4000000 in
theorem twin18_yes (w : World) (A B : Option Addr) (c d : Nat) (x : K.S26) (hr : Kd.C K.k111 w A x.f2.f6.length x.f2.f6) (hr' : Kd.C K.k111 w B x.f2.f6.length x.f2.f6) :
    Calls Try.prog 136 #[stepV x A c, stepV x B d] w fun e w' => e = .returned (.bool true) ∧ Below w.heap.size w w' := by
  have HG := Lib.hid (fun (W : World) (hb : Below w.heap.size w W) => alike18_yes W A B c d x.f2.f6 (Kd.C_below hr hb) (Kd.C_below hr' hb))
  clear hr hr'
  unfold stepV
  go_enter Try.func136, Try.ntmps136
  go_wp2_with (go_at_call 158; refine (HG.out _ (((Below.refl _ _).alloc (Nat.le_refl _) _).alloc (by simp) _)).mono ?_; rintro e w1 ⟨rfl, hb⟩; have HB := Lib.hid hb; clear hb)
  go_ret
  exact ⟨rfl, (((Below.refl _ _).alloc (Nat.le_refl _) _).alloc (by simp) _).trans (HB.out.mono (by simp; omega))⟩
def ent18R6.T : Bool × List (List Nat × List Nat) := (true, [([], []), ([], []), ([0, 1], [0, 1]), ([2], [2]), ([3], [3]), ([], []), ([], []), ([5, 6], [5, 6]), ([7], [7]), ([8], [8]), ([4, 9], [4, 9]), ([10], [10]), ([11], [11]), ([11], [11]), ([12, 13, 11], [11, 12, 13]), ([14, 11], [11, 14]), ([15, 11], [11, 15]), ([11], [11]), ([11], [11]), ([17, 18, 11], [11, 17, 18]), ([19, 11], [11, 19]), ([20, 11], [11, 20]), ([16, 21, 11], [11, 16, 21]), ([11, 22], [11, 22]), ([23, 11], [23]), ([24], [24]), ([24], [24]), ([25, 26, 24], [24, 25, 26]), ([27, 24], [24, 27]), ([28, 24], [24, 28]), ([24], [24]), ([24], [24]), ([30, 31, 24], [24, 30, 31]), ([32, 24], [24, 32]), ([33, 24], [24, 33]), ([29, 34, 24, 24], [24, 29, 34]), ([35, 24], [24, 35]), ([24, 36], [24, 36])])
def ent18R6.B : List Nat := [0, 0, 3, 7, 15, 0, 0, 96, 224, 480, 1023, 2047, 4095, 4095, 16383, 32767, 65535, 4095, 4095, 397311, 921599, 1970175, 4194303, 8388607, 16777215, 33554431, 33554431, 134217727, 268435455, 536870911, 33554431, 33554431, 3254779903, 7549747199, 16139681791, 34359738367, 68719476735, 137438953471]
theorem ent18R6.tab : rtab .any (opsOf Try.f73 6) = ent18R6.T := by kernel_rfl
theorem ent18R6.bits : waitsOk ent18R6.T.2 ent18R6.B = true := by kernel_rfl

set_option maxHeartbeats 16000000 in
theorem entries18_yes (w : World) (A B : Option Addr) (c d : Nat) (l : List K.S26) (hr : Kd.C K.k26 w A l.length l) (hr' : Kd.C K.k26 w B l.length l) :
    Calls Try.prog 73 #[.slice A l.length c, .slice B l.length d] w fun e w' => e = .returned (.bool true) ∧ Below w.heap.size w w' := by
  have hl : l.length ≤ 9223372036854775807 := hr.2.1
  have HR := Lib.hid hr
  have HR' := Lib.hid hr'
  clear hr hr'
  go_enter Try.func73, Try.ntmps73
  go_wp2
  go_loopg [5] l.length (fun g s5 wr => ∃ i : Nat, s5 = .int .i64 i ∧ i ≤ l.length ∧ g = l.length - i ∧ Hid (Below w.heap.size w wr))
  case atStart => exact ⟨0, rfl, Nat.zero_le _, rfl, Lib.hid (Below.refl _ _)⟩
  case round =>
    obtain ⟨i, rfl, hi, hg, HB0⟩ := hrel
    by_cases hlt : i < l.length
    · have hb1 : Below w.heap.size w wr.drew := below_drew1 HB0.out
      obtain ⟨ad, A8, c8, e1, sa, _, ca⟩ := EC.at (Kd.C_below HR.out hb1) i hlt
      obtain ⟨bd, B8, d8, e2, sb, _, cb⟩ := EC.at (Kd.C_below HR'.out hb1) i hlt
      subst e1; subst e2
      generalize K.rd_T26 l i = x at sa sb ca cb
      have HCA := Lib.hid ca
      have HCB := Lib.hid cb
      have HB := Lib.hid hb1
      have hS := And.intro sa sb
      clear ca cb hb1 sa sb
      go_upto_region 6 with (fail)
      refine start_ (n := 38) (S := fun w' => EC w' (ad.add (i * 10)) x A8 c8 ∧ EC w' (bd.add (i * 10)) x B8 d8) (ds := []) #[false, false, false, false, false, false, false, false, false, false, false, false, false, false, false, false, false, false, false, false, false, false, false, false, false, false, false, false, false, false, false, false, false, false, false, false, false, false] (by kernel_rfl) rfl rfl hS (fun hHeld => ?_); refine with_tabW ent18R6.tab ent18R6.bits (fun HT_ HW_ => ?_)
      refine pure_ (i := 0) (N := (some 17)) (v := ?_) (a' := ?_) #[true, false, false, false, false, false, false, false, false, false, false, false, false, false, false, false, false, false, false, false, false, false, false, false, false, false, false, false, false, false, false, false, false, false, false, false, false, false] rfl rfl (any_of HT_.out (by kernel_rfl)) (fun _ _ _ h => h) (Or.inl ⟨by rfl, ?_⟩) ?_ ?_
      rotate_left
      · intro w'
        go_simp
        with_reducible rfl
      rotate_left
      · simp only [Act.put, List.setIfInBounds_toArray, List.set_cons_zero, List.set_cons_succ, i64_w, i32_w]
        rfl
      refine pure_ (i := 1) (N := (some 18)) (v := ?_) (a' := ?_) #[true, true, false, false, false, false, false, false, false, false, false, false, false, false, false, false, false, false, false, false, false, false, false, false, false, false, false, false, false, false, false, false, false, false, false, false, false, false] rfl rfl (any_of HT_.out (by kernel_rfl)) (fun _ _ _ h => h) (Or.inl ⟨by rfl, ?_⟩) ?_ ?_
      rotate_left
      · intro w'
        go_simp
        with_reducible rfl
      rotate_left
      · simp only [Act.put, List.setIfInBounds_toArray, List.set_cons_zero, List.set_cons_succ, i64_w, i32_w]
        rfl
      refine pure_ (i := 2) (N := (some 19)) (v := ?_) (a' := ?_) #[true, true, true, false, false, false, false, false, false, false, false, false, false, false, false, false, false, false, false, false, false, false, false, false, false, false, false, false, false, false, false, false, false, false, false, false, false, false] rfl rfl (any_of HT_.out (by kernel_rfl)) (fun _ _ _ h => h) (Or.inl ⟨by rfl, ?_⟩) ?_ ?_
      rotate_left
      · intro w'
        go_simp
        with_reducible rfl
      rotate_left
      · simp only [Act.put, List.setIfInBounds_toArray, List.set_cons_zero, List.set_cons_succ, i64_w, i32_w]
        rfl
      refine pure_ (i := 3) (N := (some 20)) (v := ?_) (a' := ?_) #[true, true, true, true, false, false, false, false, false, false, false, false, false, false, false, false, false, false, false, false, false, false, false, false, false, false, false, false, false, false, false, false, false, false, false, false, false, false] rfl rfl (any_of HT_.out (by kernel_rfl)) (fun _ _ _ h => h) (Or.inl ⟨by rfl, ?_⟩) ?_ ?_
      rotate_left
      · intro w'
        go_simp
        with_reducible rfl
      rotate_left
      · simp only [Act.put, List.setIfInBounds_toArray, List.set_cons_zero, List.set_cons_succ, i64_w, i32_w]
        rfl
      refine pure_ (i := 5) (N := (some 22)) (v := ?_) (a' := ?_) #[true, true, true, true, false, true, false, false, false, false, false, false, false, false, false, false, false, false, false, false, false, false, false, false, false, false, false, false, false, false, false, false, false, false, false, false, false, false] rfl rfl (any_of HT_.out (by kernel_rfl)) (fun _ _ _ h => h) (Or.inl ⟨by rfl, ?_⟩) ?_ ?_
      rotate_left
      · intro w'
        go_simp
        with_reducible rfl
      rotate_left
      · simp only [Act.put, List.setIfInBounds_toArray, List.set_cons_zero, List.set_cons_succ, i64_w, i32_w]
        rfl
      refine pure_ (i := 6) (N := (some 23)) (v := ?_) (a' := ?_) #[true, true, true, true, false, true, true, false, false, false, false, false, false, false, false, false, false, false, false, false, false, false, false, false, false, false, false, false, false, false, false, false, false, false, false, false, false, false] rfl rfl (any_of HT_.out (by kernel_rfl)) (fun _ _ _ h => h) (Or.inl ⟨by rfl, ?_⟩) ?_ ?_
      rotate_left
      · intro w'
        go_simp
        with_reducible rfl
      rotate_left
      · simp only [Act.put, List.setIfInBounds_toArray, List.set_cons_zero, List.set_cons_succ, i64_w, i32_w]
        rfl
      refine pure_ (i := 7) (N := (some 24)) (v := ?_) (a' := ?_) #[true, true, true, true, false, true, true, true, false, false, false, false, false, false, false, false, false, false, false, false, false, false, false, false, false, false, false, false, false, false, false, false, false, false, false, false, false, false] rfl rfl (any_of HT_.out (by kernel_rfl)) (fun _ _ _ h => h) (Or.inl ⟨by rfl, ?_⟩) ?_ ?_
      rotate_left
      · intro w'
        go_simp
        with_reducible rfl
      rotate_left
      · simp only [Act.put, List.setIfInBounds_toArray, List.set_cons_zero, List.set_cons_succ, i64_w, i32_w]
        rfl
      refine pure_ (i := 8) (N := (some 25)) (v := ?_) (a' := ?_) #[true, true, true, true, false, true, true, true, true, false, false, false, false, false, false, false, false, false, false, false, false, false, false, false, false, false, false, false, false, false, false, false, false, false, false, false, false, false] rfl rfl (any_of HT_.out (by kernel_rfl)) (fun _ _ _ h => h) (Or.inl ⟨by rfl, ?_⟩) ?_ ?_
      rotate_left
      · intro w'
        go_simp
        with_reducible rfl
      rotate_left
      · simp only [Act.put, List.setIfInBounds_toArray, List.set_cons_zero, List.set_cons_succ, i64_w, i32_w]
        rfl
      refine take_ (i := 4) (N := (some 21)) (v := ?_) (a' := ?_) #[true, true, true, true, true, true, true, true, true, false, false, false, false, false, false, false, false, false, false, false, false, false, false, false, false, false, false, false, false, false, false, false, false, false, false, false, false, false] rfl rfl (take_ofW HT_.out HW_.out (by kernel_rfl)) (fun _ _ _ h => h) (Or.inl ⟨by rfl, ?_⟩) hHeld ?_ ?_
      rotate_left
      · rintro w' ⟨⟨s0, s1, s2, s3, s4, s5, s6, s7, s8, s9⟩, ⟨u0, u1, u2, u3, u4, u5, u6, u7, u8, u9⟩⟩
        go_simp
        with_reducible rfl
      rotate_left
      · simp only [Act.put, List.setIfInBounds_toArray, List.set_cons_zero, List.set_cons_succ, i64_w, i32_w]
        rfl
      refine take_ (i := 9) (N := (some 26)) (v := ?_) (a' := ?_) #[true, true, true, true, true, true, true, true, true, true, false, false, false, false, false, false, false, false, false, false, false, false, false, false, false, false, false, false, false, false, false, false, false, false, false, false, false, false] rfl rfl (take_ofW HT_.out HW_.out (by kernel_rfl)) (fun _ _ _ h => h) (Or.inl ⟨by rfl, ?_⟩) hHeld ?_ ?_
      rotate_left
      · rintro w' ⟨⟨s0, s1, s2, s3, s4, s5, s6, s7, s8, s9⟩, ⟨u0, u1, u2, u3, u4, u5, u6, u7, u8, u9⟩⟩
        go_simp
        with_reducible rfl
      rotate_left
      · simp only [Act.put, List.setIfInBounds_toArray, List.set_cons_zero, List.set_cons_succ, i64_w, i32_w]
        rfl
      refine pure_ (i := 10) (N := (some 27)) (v := ?_) (a' := ?_) #[true, true, true, true, true, true, true, true, true, true, true, false, false, false, false, false, false, false, false, false, false, false, false, false, false, false, false, false, false, false, false, false, false, false, false, false, false, false] rfl rfl (any_of HT_.out (by kernel_rfl)) (fun _ _ _ h => h) (Or.inl ⟨by rfl, ?_⟩) ?_ ?_
      rotate_left
      · intro w'
        go_simp
        with_reducible rfl
      rotate_left
      · simp only [Act.put, List.setIfInBounds_toArray, List.set_cons_zero, List.set_cons_succ, i64_w, i32_w]
        rfl
      refine pure_ (i := 11) (N := (some 28)) (v := ?_) (a' := ?_) #[true, true, true, true, true, true, true, true, true, true, true, true, false, false, false, false, false, false, false, false, false, false, false, false, false, false, false, false, false, false, false, false, false, false, false, false, false, false] rfl rfl (any_of HT_.out (by kernel_rfl)) (fun _ _ _ h => h) (Or.inl ⟨by rfl, ?_⟩) ?_ ?_
      rotate_left
      · intro w'
        go_simp
        with_reducible rfl
      rotate_left
      · simp only [Act.put, List.setIfInBounds_toArray, List.set_cons_zero, List.set_cons_succ, i64_w, i32_w]
        rfl
      refine pure_ (i := 12) (N := (some 29)) (v := ?_) (a' := ?_) #[true, true, true, true, true, true, true, true, true, true, true, true, true, false, false, false, false, false, false, false, false, false, false, false, false, false, false, false, false, false, false, false, false, false, false, false, false, false] rfl rfl (any_of HT_.out (by kernel_rfl)) (fun _ _ _ h => h) (Or.inl ⟨by rfl, ?_⟩) ?_ ?_
      rotate_left
      · intro w'
        go_simp
        with_reducible rfl
      rotate_left
      · simp only [Act.put, List.setIfInBounds_toArray, List.set_cons_zero, List.set_cons_succ, i64_w, i32_w]
        rfl
      refine pure_ (i := 13) (N := (some 30)) (v := ?_) (a' := ?_) #[true, true, true, true, true, true, true, true, true, true, true, true, true, true, false, false, false, false, false, false, false, false, false, false, false, false, false, false, false, false, false, false, false, false, false, false, false, false] rfl rfl (any_of HT_.out (by kernel_rfl)) (fun _ _ _ h => h) (Or.inl ⟨by rfl, ?_⟩) ?_ ?_
      rotate_left
      · intro w'
        go_simp
        with_reducible rfl
      rotate_left
      · simp only [Act.put, List.setIfInBounds_toArray, List.set_cons_zero, List.set_cons_succ, i64_w, i32_w]
        rfl
      refine pure_ (i := 14) (N := (some 31)) (v := ?_) (a' := ?_) #[true, true, true, true, true, true, true, true, true, true, true, true, true, true, true, false, false, false, false, false, false, false, false, false, false, false, false, false, false, false, false, false, false, false, false, false, false, false] rfl rfl (any_of HT_.out (by kernel_rfl)) (fun _ _ _ h => h) (Or.inl ⟨by rfl, ?_⟩) ?_ ?_
      rotate_left
      · intro w'
        go_simp
        with_reducible rfl
      rotate_left
      · simp only [Act.put, List.setIfInBounds_toArray, List.set_cons_zero, List.set_cons_succ, i64_w, i32_w]
        rfl
      refine pure_ (i := 15) (N := (some 32)) (v := ?_) (a' := ?_) #[true, true, true, true, true, true, true, true, true, true, true, true, true, true, true, true, false, false, false, false, false, false, false, false, false, false, false, false, false, false, false, false, false, false, false, false, false, false] rfl rfl (any_of HT_.out (by kernel_rfl)) (fun _ _ _ h => h) (Or.inl ⟨by rfl, ?_⟩) ?_ ?_
      rotate_left
      · intro w'
        go_simp
        with_reducible rfl
      rotate_left
      · simp only [Act.put, List.setIfInBounds_toArray, List.set_cons_zero, List.set_cons_succ, i64_w, i32_w]
        rfl
      refine pure_ (i := 17) (N := (some 34)) (v := ?_) (a' := ?_) #[true, true, true, true, true, true, true, true, true, true, true, true, true, true, true, true, false, true, false, false, false, false, false, false, false, false, false, false, false, false, false, false, false, false, false, false, false, false] rfl rfl (any_of HT_.out (by kernel_rfl)) (fun _ _ _ h => h) (Or.inl ⟨by rfl, ?_⟩) ?_ ?_
      rotate_left
      · intro w'
        go_simp
        with_reducible rfl
      rotate_left
      · simp only [Act.put, List.setIfInBounds_toArray, List.set_cons_zero, List.set_cons_succ, i64_w, i32_w]
        rfl
      refine pure_ (i := 18) (N := (some 35)) (v := ?_) (a' := ?_) #[true, true, true, true, true, true, true, true, true, true, true, true, true, true, true, true, false, true, true, false, false, false, false, false, false, false, false, false, false, false, false, false, false, false, false, false, false, false] rfl rfl (any_of HT_.out (by kernel_rfl)) (fun _ _ _ h => h) (Or.inl ⟨by rfl, ?_⟩) ?_ ?_
      rotate_left
      · intro w'
        go_simp
        with_reducible rfl
      rotate_left
      · simp only [Act.put, List.setIfInBounds_toArray, List.set_cons_zero, List.set_cons_succ, i64_w, i32_w]
        rfl
      refine pure_ (i := 19) (N := (some 36)) (v := ?_) (a' := ?_) #[true, true, true, true, true, true, true, true, true, true, true, true, true, true, true, true, false, true, true, true, false, false, false, false, false, false, false, false, false, false, false, false, false, false, false, false, false, false] rfl rfl (any_of HT_.out (by kernel_rfl)) (fun _ _ _ h => h) (Or.inl ⟨by rfl, ?_⟩) ?_ ?_
      rotate_left
      · intro w'
        go_simp
        with_reducible rfl
      rotate_left
      · simp only [Act.put, List.setIfInBounds_toArray, List.set_cons_zero, List.set_cons_succ, i64_w, i32_w]
        rfl
      refine pure_ (i := 20) (N := (some 37)) (v := ?_) (a' := ?_) #[true, true, true, true, true, true, true, true, true, true, true, true, true, true, true, true, false, true, true, true, true, false, false, false, false, false, false, false, false, false, false, false, false, false, false, false, false, false] rfl rfl (any_of HT_.out (by kernel_rfl)) (fun _ _ _ h => h) (Or.inl ⟨by rfl, ?_⟩) ?_ ?_
      rotate_left
      · intro w'
        go_simp
        with_reducible rfl
      rotate_left
      · simp only [Act.put, List.setIfInBounds_toArray, List.set_cons_zero, List.set_cons_succ, i64_w, i32_w]
        rfl
      refine take_ (i := 16) (N := (some 33)) (v := ?_) (a' := ?_) #[true, true, true, true, true, true, true, true, true, true, true, true, true, true, true, true, true, true, true, true, true, false, false, false, false, false, false, false, false, false, false, false, false, false, false, false, false, false] rfl rfl (take_ofW HT_.out HW_.out (by kernel_rfl)) (fun _ _ _ h => h) (Or.inl ⟨by rfl, ?_⟩) hHeld ?_ ?_
      rotate_left
      · rintro w' ⟨⟨s0, s1, s2, s3, s4, s5, s6, s7, s8, s9⟩, ⟨u0, u1, u2, u3, u4, u5, u6, u7, u8, u9⟩⟩
        go_simp
        with_reducible rfl
      rotate_left
      · simp only [Act.put, List.setIfInBounds_toArray, List.set_cons_zero, List.set_cons_succ, i64_w, i32_w]
        rfl
      refine take_ (i := 21) (N := (some 38)) (v := ?_) (a' := ?_) #[true, true, true, true, true, true, true, true, true, true, true, true, true, true, true, true, true, true, true, true, true, true, false, false, false, false, false, false, false, false, false, false, false, false, false, false, false, false] rfl rfl (take_ofW HT_.out HW_.out (by kernel_rfl)) (fun _ _ _ h => h) (Or.inl ⟨by rfl, ?_⟩) hHeld ?_ ?_
      rotate_left
      · rintro w' ⟨⟨s0, s1, s2, s3, s4, s5, s6, s7, s8, s9⟩, ⟨u0, u1, u2, u3, u4, u5, u6, u7, u8, u9⟩⟩
        go_simp
        with_reducible rfl
      rotate_left
      · simp only [Act.put, List.setIfInBounds_toArray, List.set_cons_zero, List.set_cons_succ, i64_w, i32_w]
        rfl
      refine pure_ (i := 22) (N := (some 39)) (v := ?_) (a' := ?_) #[true, true, true, true, true, true, true, true, true, true, true, true, true, true, true, true, true, true, true, true, true, true, true, false, false, false, false, false, false, false, false, false, false, false, false, false, false, false] rfl rfl (any_of HT_.out (by kernel_rfl)) (fun _ _ _ h => h) (Or.inl ⟨by rfl, ?_⟩) ?_ ?_
      rotate_left
      · intro w'
        go_simp
        with_reducible rfl
      rotate_left
      · simp only [Act.put, List.setIfInBounds_toArray, List.set_cons_zero, List.set_cons_succ, i64_w, i32_w]
        rfl
      refine pure_ (i := 23) (N := (some 40)) (v := ?_) (a' := ?_) #[true, true, true, true, true, true, true, true, true, true, true, true, true, true, true, true, true, true, true, true, true, true, true, true, false, false, false, false, false, false, false, false, false, false, false, false, false, false] rfl rfl (any_of HT_.out (by kernel_rfl)) (fun _ _ _ h => h) (Or.inl ⟨by rfl, ?_⟩) ?_ ?_
      rotate_left
      · intro w'
        go_simp
        with_reducible rfl
      rotate_left
      · simp only [Act.put, List.setIfInBounds_toArray, List.set_cons_zero, List.set_cons_succ, i64_w, i32_w]
        rfl
      refine pure_ (i := 24) (N := (some 41)) (v := ?_) (a' := ?_) #[true, true, true, true, true, true, true, true, true, true, true, true, true, true, true, true, true, true, true, true, true, true, true, true, true, false, false, false, false, false, false, false, false, false, false, false, false, false] rfl rfl (any_of HT_.out (by kernel_rfl)) (fun _ _ _ h => h) (Or.inl ⟨by rfl, ?_⟩) ?_ ?_
      rotate_left
      · intro w'
        go_simp
        with_reducible rfl
      rotate_left
      · simp only [Act.put, List.setIfInBounds_toArray, List.set_cons_zero, List.set_cons_succ, i64_w, i32_w]
        rfl
      refine pure_ (i := 25) (N := (some 42)) (v := ?_) (a' := ?_) #[true, true, true, true, true, true, true, true, true, true, true, true, true, true, true, true, true, true, true, true, true, true, true, true, true, true, false, false, false, false, false, false, false, false, false, false, false, false] rfl rfl (any_of HT_.out (by kernel_rfl)) (fun _ _ _ h => h) (Or.inl ⟨by rfl, ?_⟩) ?_ ?_
      rotate_left
      · intro w'
        go_simp
        with_reducible rfl
      rotate_left
      · simp only [Act.put, List.setIfInBounds_toArray, List.set_cons_zero, List.set_cons_succ, i64_w, i32_w]
        rfl
      refine pure_ (i := 26) (N := (some 43)) (v := ?_) (a' := ?_) #[true, true, true, true, true, true, true, true, true, true, true, true, true, true, true, true, true, true, true, true, true, true, true, true, true, true, true, false, false, false, false, false, false, false, false, false, false, false] rfl rfl (any_of HT_.out (by kernel_rfl)) (fun _ _ _ h => h) (Or.inl ⟨by rfl, ?_⟩) ?_ ?_
      rotate_left
      · intro w'
        go_simp
        with_reducible rfl
      rotate_left
      · simp only [Act.put, List.setIfInBounds_toArray, List.set_cons_zero, List.set_cons_succ, i64_w, i32_w]
        rfl
      refine pure_ (i := 27) (N := (some 44)) (v := ?_) (a' := ?_) #[true, true, true, true, true, true, true, true, true, true, true, true, true, true, true, true, true, true, true, true, true, true, true, true, true, true, true, true, false, false, false, false, false, false, false, false, false, false] rfl rfl (any_of HT_.out (by kernel_rfl)) (fun _ _ _ h => h) (Or.inl ⟨by rfl, ?_⟩) ?_ ?_
      rotate_left
      · intro w'
        go_simp
        with_reducible rfl
      rotate_left
      · simp only [Act.put, List.setIfInBounds_toArray, List.set_cons_zero, List.set_cons_succ, i64_w, i32_w]
        rfl
      refine pure_ (i := 28) (N := (some 45)) (v := ?_) (a' := ?_) #[true, true, true, true, true, true, true, true, true, true, true, true, true, true, true, true, true, true, true, true, true, true, true, true, true, true, true, true, true, false, false, false, false, false, false, false, false, false] rfl rfl (any_of HT_.out (by kernel_rfl)) (fun _ _ _ h => h) (Or.inl ⟨by rfl, ?_⟩) ?_ ?_
      rotate_left
      · intro w'
        go_simp
        with_reducible rfl
      rotate_left
      · simp only [Act.put, List.setIfInBounds_toArray, List.set_cons_zero, List.set_cons_succ, i64_w, i32_w]
        rfl
      refine pure_ (i := 30) (N := (some 47)) (v := ?_) (a' := ?_) #[true, true, true, true, true, true, true, true, true, true, true, true, true, true, true, true, true, true, true, true, true, true, true, true, true, true, true, true, true, false, true, false, false, false, false, false, false, false] rfl rfl (any_of HT_.out (by kernel_rfl)) (fun _ _ _ h => h) (Or.inl ⟨by rfl, ?_⟩) ?_ ?_
      rotate_left
      · intro w'
        go_simp
        with_reducible rfl
      rotate_left
      · simp only [Act.put, List.setIfInBounds_toArray, List.set_cons_zero, List.set_cons_succ, i64_w, i32_w]
        rfl
      refine pure_ (i := 31) (N := (some 48)) (v := ?_) (a' := ?_) #[true, true, true, true, true, true, true, true, true, true, true, true, true, true, true, true, true, true, true, true, true, true, true, true, true, true, true, true, true, false, true, true, false, false, false, false, false, false] rfl rfl (any_of HT_.out (by kernel_rfl)) (fun _ _ _ h => h) (Or.inl ⟨by rfl, ?_⟩) ?_ ?_
      rotate_left
      · intro w'
        go_simp
        with_reducible rfl
      rotate_left
      · simp only [Act.put, List.setIfInBounds_toArray, List.set_cons_zero, List.set_cons_succ, i64_w, i32_w]
        rfl
      refine pure_ (i := 32) (N := (some 49)) (v := ?_) (a' := ?_) #[true, true, true, true, true, true, true, true, true, true, true, true, true, true, true, true, true, true, true, true, true, true, true, true, true, true, true, true, true, false, true, true, true, false, false, false, false, false] rfl rfl (any_of HT_.out (by kernel_rfl)) (fun _ _ _ h => h) (Or.inl ⟨by rfl, ?_⟩) ?_ ?_
      rotate_left
      · intro w'
        go_simp
        with_reducible rfl
      rotate_left
      · simp only [Act.put, List.setIfInBounds_toArray, List.set_cons_zero, List.set_cons_succ, i64_w, i32_w]
        rfl
      refine pure_ (i := 33) (N := (some 50)) (v := ?_) (a' := ?_) #[true, true, true, true, true, true, true, true, true, true, true, true, true, true, true, true, true, true, true, true, true, true, true, true, true, true, true, true, true, false, true, true, true, true, false, false, false, false] rfl rfl (any_of HT_.out (by kernel_rfl)) (fun _ _ _ h => h) (Or.inl ⟨by rfl, ?_⟩) ?_ ?_
      rotate_left
      · intro w'
        go_simp
        with_reducible rfl
      rotate_left
      · simp only [Act.put, List.setIfInBounds_toArray, List.set_cons_zero, List.set_cons_succ, i64_w, i32_w]
        rfl
      refine take_ (i := 29) (N := (some 46)) (v := ?_) (a' := ?_) #[true, true, true, true, true, true, true, true, true, true, true, true, true, true, true, true, true, true, true, true, true, true, true, true, true, true, true, true, true, true, true, true, true, true, false, false, false, false] rfl rfl (take_ofW HT_.out HW_.out (by kernel_rfl)) (fun _ _ _ h => h) (Or.inl ⟨by rfl, ?_⟩) hHeld ?_ ?_
      rotate_left
      · rintro w' ⟨⟨s0, s1, s2, s3, s4, s5, s6, s7, s8, s9⟩, ⟨u0, u1, u2, u3, u4, u5, u6, u7, u8, u9⟩⟩
        go_simp
        with_reducible rfl
      rotate_left
      · simp only [Act.put, List.setIfInBounds_toArray, List.set_cons_zero, List.set_cons_succ, i64_w, i32_w]
        rfl
      refine take_ (i := 34) (N := (some 51)) (v := ?_) (a' := ?_) #[true, true, true, true, true, true, true, true, true, true, true, true, true, true, true, true, true, true, true, true, true, true, true, true, true, true, true, true, true, true, true, true, true, true, true, false, false, false] rfl rfl (take_ofW HT_.out HW_.out (by kernel_rfl)) (fun _ _ _ h => h) (Or.inl ⟨by rfl, ?_⟩) hHeld ?_ ?_
      rotate_left
      · rintro w' ⟨⟨s0, s1, s2, s3, s4, s5, s6, s7, s8, s9⟩, ⟨u0, u1, u2, u3, u4, u5, u6, u7, u8, u9⟩⟩
        go_simp
        with_reducible rfl
      rotate_left
      · simp only [Act.put, List.setIfInBounds_toArray, List.set_cons_zero, List.set_cons_succ, i64_w, i32_w]
        rfl
      refine one_ (i := 35) (N := (some 52)) #[true, true, true, true, true, true, true, true, true, true, true, true, true, true, true, true, true, true, true, true, true, true, true, true, true, true, true, true, true, true, true, true, true, true, true, true, false, false] rfl rfl (one_of HT_.out (by kernel_rfl)) (by decide) (fun K hK => ?_)
      refine goes_ Try.func136 (by kernel_rfl) rfl #[stepV x A8 c8, stepV x B8 d8] (by rfl) rfl rfl (by (try simp only [List.map_toArray, List.map_cons, List.map_nil]); first | done | rfl) ?_
      refine (twin18_yes _ A8 B8 c8 d8 x HCA.out HCB.out).mono ?_
      rintro e w3 ⟨rfl, hb⟩
      have HB3 := Lib.hid (HB.out.trans (hb.mono HB.out.size))
      have hs3 := And.intro (hS.1.below hb) (hS.2.below hb)
      clear hb
      refine ⟨_, rfl, ?_⟩
      refine hK.out _ _ hs3 (fun hHeld => ?_)
      clear hK K
      refine norm_ (a' := ?_) ?_ ?_
      rotate_left
      · show Act.put _ (some 52) _ = _
        simp only [Act.put, List.setIfInBounds_toArray, List.set_cons_zero, List.set_cons_succ, i64_w, i32_w]
        rfl
      refine pure_ (i := 36) (N := (some 53)) (v := ?_) (a' := ?_) #[true, true, true, true, true, true, true, true, true, true, true, true, true, true, true, true, true, true, true, true, true, true, true, true, true, true, true, true, true, true, true, true, true, true, true, true, true, false] rfl rfl (any_of HT_.out (by kernel_rfl)) (fun _ _ _ h => h) (Or.inl ⟨by rfl, ?_⟩) ?_ ?_
      rotate_left
      · intro w'
        go_simp
        with_reducible rfl
      rotate_left
      · simp only [Act.put, List.setIfInBounds_toArray, List.set_cons_zero, List.set_cons_succ, i64_w, i32_w]
        rfl
      refine pure_ (i := 37) (N := (some 54)) (v := ?_) (a' := ?_) #[true, true, true, true, true, true, true, true, true, true, true, true, true, true, true, true, true, true, true, true, true, true, true, true, true, true, true, true, true, true, true, true, true, true, true, true, true, true] rfl rfl (any_of HT_.out (by kernel_rfl)) (fun _ _ _ h => h) (Or.inl ⟨by rfl, ?_⟩) ?_ ?_
      rotate_left
      · intro w'
        go_simp
        with_reducible rfl
      rotate_left
      · simp only [Act.put, List.setIfInBounds_toArray, List.set_cons_zero, List.set_cons_succ, i64_w, i32_w]
        rfl
      refine done_ (done_of HT_.out (by kernel_rfl)) ?_
      clear hS HCA HCB
      go_wp2
      go_roundg (l.length - (i + 1))
      case measure => omega
      case rel => exact ⟨i + 1, by go_num, by omega, rfl, HB3⟩
    · obtain rfl : i = l.length := by omega
      go_wp2
      go_ret
      exact ⟨rfl, HB0.out⟩
end Go.Proofs.Ytmbnjgnmblgjoaa.Man
end

-- One
section
/- The statement CodecOne, stepped through. No condition. Printed by wip/tools/gen_one.py. -/

namespace Go.Proofs.Ytmbnjgnmblgjoaa.Man
open Go.RowKit Go.Proofs.YtmbnjgnmblgjoaaW.PrintWords Go.Proofs.YtmbnjgnmblgjoaaW.PrintLast Go.Proofs.YtmbnjgnmblgjoaaW.PrintMore
set_option linter.unusedVariables false
set_option linter.unusedSimpArgs false
set_option maxRecDepth 100000

theorem bytes_wf {l : List Int} (h : ∀ x ∈ l, (Lit.int .u8 x).wf = true) : areBytesN l = true := by
  unfold areBytesN
  rw [List.all_eq_true]
  intro x hx
  have := Open.wf_u8 (h x hx)
  simp
  omega
end Go.Proofs.Ytmbnjgnmblgjoaa.Man
end

-- JTorn
section
/- The statement JournalTorn, stepped through. No condition. Printed by wip/tools/gen_jtorn.py. -/



namespace Go.Proofs.Ytmbnjgnmblgjoaa.Man
open Go.RowKit Go.Shelf Go.Proofs.YtmbnjgnmblgjoaaW.PrintWords Go.Proofs.YtmbnjgnmblgjoaaW.PrintLast Go.Proofs.YtmbnjgnmblgjoaaW.PrintMore
set_option linter.unusedVariables false
set_option linter.unusedSimpArgs false
set_option maxRecDepth 100000
theorem C_takeB {w : World} {A : Option Addr} {xs : List Int} (h : Kd.C (Kd.int .u8) w A xs.length xs) {k : Nat} (hk : k ≤ xs.length) : Kd.C (Kd.int .u8) w A k (xs.take k) := by
  have hR := Kd.reads_of_C (enc := Value.int .u8) (d := (0 : Int)) (h1 := fun _ => rfl) h
  refine Kd.C_of_reads (d := (0 : Int)) (h1 := fun _ => rfl) ⟨by rw [List.length_take]; omega, by have := hR.2.1; omega, fun h0 => ?_⟩
  obtain ⟨ad, e, hc⟩ := hR.2.2 (by omega)
  refine ⟨ad, e, fun j hj => ?_⟩
  rw [hc j (by omega)]
  simp [List.getD_eq_getElem?_getD, hj]
def jtR5.T : Bool × List (List Nat × List Nat) := (true, [([], []), ([0], [0]), ([1], [1]), ([2], [2]), ([3, 2], [2, 3]), ([2, 4], [2, 4]), ([5, 2], [5]), ([6], [6]), ([7, 6, 6], [6, 7]), ([6], [6]), ([9, 6], [6, 9]), ([8, 10, 6], [6, 8, 10]), ([6, 11], [6, 11]), ([12, 8], [12]), ([13], [13]), ([14, 13, 13], [13, 14]), ([15, 13], [13, 15]), ([13], [13]), ([13], [13]), ([18, 15, 13], [13, 18]), ([17, 19, 13], [13, 17, 19]), ([20, 13], [13, 20]), ([16, 21, 13], [13, 16, 21]), ([13, 22], [13, 22])])
def jtR5.B : List Nat := [0, 1, 3, 7, 15, 31, 63, 127, 255, 127, 639, 2047, 4095, 8191, 16383, 32767, 65535, 16383, 16383, 327679, 983039, 2031615, 4194303, 8388607]
theorem jtR5.tab : rtab .any (opsOf Try.f12 5) = jtR5.T := by kernel_rfl
theorem jtR5.bits : waitsOk jtR5.T.2 jtR5.B = true := by kernel_rfl

set_option maxHeartbeats 16000000 in
theorem jtorn_walk (A1 : Option Addr) (c1 : Nat) (b : List Int) (w : World) (hr1 : Kd.C (Kd.int .u8) w A1 b.length b) (hc1 : b.length ≤ c1) (hB : areBytesN b = true) :
    Calls Try.prog 12 #[.slice A1 b.length c1] w fun e w' => e = .returned (.bool true) ∧ Below w.heap.size w w' := by
  have HC := Lib.hid hr1
  have HBB := Lib.hid hB
  have hl63 : b.length ≤ 9223372036854775807 := hr1.2.1
  by_cases hlong : 262144 < b.length
  · have hroom : ¬ ((b.length : Int) ≤ 262144 - (([] : List Int).length : Int)) := by simp; omega
    have hgt : decide ((262144 : Int) < (b.length : Int)) = true := by simp; omega
    have hgt2 : decide (262144 < b.length) = true := by simp; omega
    have HRM := Lib.hid hroom
    clear hr1 hB hroom
    go_enter Try.func12, Try.ntmps12
    go_wp2_with (first
      | (go_at_call 26; refine (new_is 262144 w w.heap.size (Nat.le_refl _) (by decide) (by decide)).mono ?_; rintro e w1 ⟨rfl, hd, hb⟩; have HD := Lib.hid hd; have HB := Lib.hid hb; clear hd hb)
      | (go_at_call 29; refine (append_full HD.out A1 b.length c1 hl63 (by simp; omega)).mono ?_; rintro e w' ⟨rfl, nd, rfl⟩; have HB2 := Lib.hid (HB.out.trans ((pw_below_drewN (Below.refl _ _) nd : Below w1.heap.size w1 (w1.drewN nd)).mono HB.out.size)))
      | (go_at_call 71; refine (awake18_is _).mono ?_; rintro e w7 ⟨rfl, hb⟩; have HW7 := Lib.hid (HB2.out.trans (hb.mono HB2.out.size)); clear hb))
    go_ret
    exact ⟨rfl, HW7.out⟩
  · have hb1 : b.length ≤ 262144 := by omega
    obtain ⟨xs, r, hL⟩ := log_exists b.length b (Nat.le_refl _) hB
    have hfl := hL.len
    have HL := Lib.hid hL
    have hF := log_flat hL.fine
    have HOE := Lib.hid (hL.open_end hB)
    have HFB := Lib.hid (flatE_bytes xs)
    clear hr1 hB hL hlong
    obtain ⟨fs, hfs⟩ : ∃ fs, flatE xs = fs := ⟨_, rfl⟩
    rw [hfs] at hfl hF HFB HOE
    have HF := Lib.hid hF
    clear hF
    have HFS := Lib.hid hfs
    have htk : b.take fs.length = fs := by rw [← hfs]; exact HL.out.take
    have HTK := Lib.hid htk
    have hgt : decide ((fs.length : Int) > (b.length : Int)) = false := by simp; omega
    have hgt2 : decide (b.length < fs.length) = false := by simp; omega
    have hfc : fs.length ≤ c1 := Nat.le_trans hfl hc1
    clear hfs htk
    go_enter Try.func12, Try.ntmps12
    go_upto_region 5 with (first
      | (go_at_call 26; refine (new_is 262144 w w.heap.size (Nat.le_refl _) (by decide) (by decide)).mono ?_; rintro e w1 ⟨rfl, hd, hb⟩; have HD1 := Lib.hid hd; have HB1 := Lib.hid hb; clear hd hb)
      | (go_at_call 29; refine (append_is HD1.out A1 c1 (Kd.C_below HC.out HB1.out) (by simp; omega)).mono ?_; rintro e w2 ⟨rfl, v2, hd, hs⟩; rw [List.nil_append] at hd; have HD2 := Lib.hid hd; have HB2 := Lib.hid (HB1.out.trans (hs.below HD1.out)); clear hd hs)
      | (go_at_call 72; refine (jopen_is HD2.out HBB.out HL.out).mono ?_; rintro e w3 ⟨J, vE, vL, v3, rfl, hJ, hj, he, hl, hd, hs⟩; rw [HFS.out] at hd; obtain ⟨AL, cL, rfl, _, hCL⟩ := ER.C hl; have HB3 := Lib.hid (HB2.out.trans (hs.below HD2.out)); have HD3 := Lib.hid hd; have HJ3 := Lib.hid (JS.made (Nat.le_trans HB2.out.size (Nat.le_refl _)) hJ hj he hd); have HX3 := Lib.hid hl; clear hj he hl hd hs hCL hJ))
    obtain ⟨es, hes⟩ : ∃ es, endsE 0 xs = es := ⟨_, rfl⟩
    have hel : es.length = xs.length := by rw [← hes]; exact endsE_length 0 xs
    have het : (es.length == xs.length) = true := by rw [hel]; exact beq_self_eq_true _
    have het2 : ((es.length : Int) == (xs.length : Int)) = true := by rw [hel]; exact beq_self_eq_true _
    rw [hes] at HJ3
    clear hes hel
    have HSV4 : Hid (∀ w', Below w.heap.size w w' → (convert 27 9 (.slice A1 fs.length c1)).run Try.prog w' = .ok (.string (strOfNums fs)) w') := Lib.hid (fun w' hb => by have := str_of (c := c1) (C_takeB (Kd.C_below HC.out hb) hfl); rwa [HTK.out] at this)
    have hs5 := HSV4.out w3.drew (HB3.out.trans ((below_drew1 (Below.refl _ _)).mono HB3.out.size))
    refine start_ (n := 24) (S := fun w' => (convert 27 9 (.slice A1 fs.length c1)).run Try.prog w' = .ok (.string (strOfNums fs)) w') (ds := []) #[false, false, false, false, false, false, false, false, false, false, false, false, false, false, false, false, false, false, false, false, false, false, false, false] (by kernel_rfl) rfl rfl hs5 (fun hHeld => ?_); refine with_tabW jtR5.tab jtR5.bits (fun HT_ HW_ => ?_)
    have hbd : Below w3.heap.size w3 w3.drew := below_drew1 (Below.refl _ _)
    have HD3w := Lib.hid (HD3.out.below hbd (Nat.le_refl _))
    have HJ3w := Lib.hid (HJ3.out.below hbd (Nat.le_refl _))
    have HX3w := Lib.hid (Kd.R_below HX3.out hbd)
    have HB3w := Lib.hid (HB3.out.trans (hbd.mono HB3.out.size))
    have HSV := Lib.hid hHeld
    clear hbd HD3 HJ3 HX3 HB3 hs5
    generalize w3.drew = w3w at *
    refine pure_ (i := 0) (N := (some 44)) (v := ?_) (a' := ?_) #[true, false, false, false, false, false, false, false, false, false, false, false, false, false, false, false, false, false, false, false, false, false, false, false] rfl rfl (any_of HT_.out (by kernel_rfl)) (fun _ _ _ h => h) (Or.inl ⟨by rfl, ?_⟩) ?_ ?_
    rotate_left
    · intro w'
      go_simp
      with_reducible rfl
    rotate_left
    · simp only [Act.put, List.setIfInBounds_toArray, List.set_cons_zero, List.set_cons_succ, i64_w, i32_w]
      rfl
    refine pure_ (i := 1) (N := (some 45)) (v := ?_) (a' := ?_) #[true, true, false, false, false, false, false, false, false, false, false, false, false, false, false, false, false, false, false, false, false, false, false, false] rfl rfl (any_of HT_.out (by kernel_rfl)) (fun _ _ _ h => h) (Or.inl ⟨by rfl, ?_⟩) ?_ ?_
    rotate_left
    · intro w'
      go_simp
      with_reducible rfl
    rotate_left
    · simp only [Act.put, List.setIfInBounds_toArray, List.set_cons_zero, List.set_cons_succ, i64_w, i32_w]
      rfl
    refine pure_ (i := 2) (N := (some 46)) (v := ?_) (a' := ?_) #[true, true, true, false, false, false, false, false, false, false, false, false, false, false, false, false, false, false, false, false, false, false, false, false] rfl rfl (any_of HT_.out (by kernel_rfl)) (fun _ _ _ h => h) (Or.inl ⟨by rfl, ?_⟩) ?_ ?_
    rotate_left
    · intro w'
      go_simp
      with_reducible rfl
    rotate_left
    · simp only [Act.put, List.setIfInBounds_toArray, List.set_cons_zero, List.set_cons_succ, i64_w, i32_w]
      rfl
    refine pure_ (i := 3) (N := (some 47)) (v := ?_) (a' := ?_) #[true, true, true, true, false, false, false, false, false, false, false, false, false, false, false, false, false, false, false, false, false, false, false, false] rfl rfl (any_of HT_.out (by kernel_rfl)) (fun _ _ _ h => h) (Or.inl ⟨by rfl, ?_⟩) ?_ ?_
    rotate_left
    · intro w'
      go_simp
      with_reducible rfl
    rotate_left
    · simp only [Act.put, List.setIfInBounds_toArray, List.set_cons_zero, List.set_cons_succ, i64_w, i32_w]
      rfl
    refine pure_ (i := 4) (N := (some 48)) (v := ?_) (a' := ?_) #[true, true, true, true, true, false, false, false, false, false, false, false, false, false, false, false, false, false, false, false, false, false, false, false] rfl rfl (any_of HT_.out (by kernel_rfl)) (fun _ _ _ h => h) (Or.inl ⟨by rfl, ?_⟩) ?_ ?_
    rotate_left
    · intro w'
      go_simp
      with_reducible rfl
    rotate_left
    · simp only [Act.put, List.setIfInBounds_toArray, List.set_cons_zero, List.set_cons_succ, i64_w, i32_w]
      rfl
    refine pure_ (i := 5) (N := (some 49)) (v := ?_) (a' := ?_) #[true, true, true, true, true, true, false, false, false, false, false, false, false, false, false, false, false, false, false, false, false, false, false, false] rfl rfl (any_of HT_.out (by kernel_rfl)) (fun _ _ _ h => h) (Or.inl ⟨by rfl, ?_⟩) ?_ ?_
    rotate_left
    · intro w'
      go_simp
      with_reducible rfl
    rotate_left
    · simp only [Act.put, List.setIfInBounds_toArray, List.set_cons_zero, List.set_cons_succ, i64_w, i32_w]
      rfl
    refine pure_ (i := 6) (N := (some 50)) (v := ?_) (a' := ?_) #[true, true, true, true, true, true, true, false, false, false, false, false, false, false, false, false, false, false, false, false, false, false, false, false] rfl rfl (any_of HT_.out (by kernel_rfl)) (fun _ _ _ h => h) (Or.inl ⟨by rfl, ?_⟩) ?_ ?_
    rotate_left
    · intro w'
      go_simp
      with_reducible rfl
    rotate_left
    · simp only [Act.put, List.setIfInBounds_toArray, List.set_cons_zero, List.set_cons_succ, i64_w, i32_w]
      rfl
    refine pure_ (i := 7) (N := (some 51)) (v := ?_) (a' := ?_) #[true, true, true, true, true, true, true, true, false, false, false, false, false, false, false, false, false, false, false, false, false, false, false, false] rfl rfl (any_of HT_.out (by kernel_rfl)) (fun _ _ _ h => h) (Or.inl ⟨by rfl, ?_⟩) ?_ ?_
    rotate_left
    · intro w'
      go_simp
      with_reducible rfl
    rotate_left
    · simp only [Act.put, List.setIfInBounds_toArray, List.set_cons_zero, List.set_cons_succ, i64_w, i32_w]
      rfl
    refine pure_ (i := 9) (N := (some 53)) (v := ?_) (a' := ?_) #[true, true, true, true, true, true, true, true, false, true, false, false, false, false, false, false, false, false, false, false, false, false, false, false] rfl rfl (any_of HT_.out (by kernel_rfl)) (fun _ _ _ h => h) (Or.inl ⟨by rfl, ?_⟩) ?_ ?_
    rotate_left
    · intro w'
      go_simp
      with_reducible rfl
    rotate_left
    · simp only [Act.put, List.setIfInBounds_toArray, List.set_cons_zero, List.set_cons_succ, i64_w, i32_w]
      rfl
    refine pure_ (i := 10) (N := (some 54)) (v := ?_) (a' := ?_) #[true, true, true, true, true, true, true, true, false, true, true, false, false, false, false, false, false, false, false, false, false, false, false, false] rfl rfl (any_of HT_.out (by kernel_rfl)) (fun _ _ _ h => h) (Or.inl ⟨by rfl, ?_⟩) ?_ ?_
    rotate_left
    · intro w'
      go_simp
      with_reducible rfl
    rotate_left
    · simp only [Act.put, List.setIfInBounds_toArray, List.set_cons_zero, List.set_cons_succ, i64_w, i32_w]
      rfl
    refine one_ (i := 8) (N := (some 52)) #[true, true, true, true, true, true, true, true, true, true, true, false, false, false, false, false, false, false, false, false, false, false, false, false] rfl rfl (one_of HT_.out (by kernel_rfl)) (by decide) ?_
    intro K hK
    refine goes_ Try.func39 (by kernel_rfl) rfl #[.pointer (some ⟨w.heap.size, 0, none⟩)] (by rfl) rfl rfl (by (try simp only [List.map_toArray, List.map_cons, List.map_nil]); first | done | rfl) ?_
    refine (len_is HD3w.out).mono ?_
    rintro e w' ⟨rfl, rfl⟩
    refine ⟨_, rfl, ?_⟩
    refine hK.out _ _ HSV.out (fun hHeld => ?_)
    clear hK K
    refine norm_ (a' := ?_) ?_ ?_
    rotate_left
    · show Act.put _ (some 52) _ = _
      simp only [Act.put, List.setIfInBounds_toArray, List.set_cons_zero, List.set_cons_succ, i64_w, i32_w]
      rfl
    refine pure_ (i := 11) (N := (some 55)) (v := ?_) (a' := ?_) #[true, true, true, true, true, true, true, true, true, true, true, true, false, false, false, false, false, false, false, false, false, false, false, false] rfl rfl (any_of HT_.out (by kernel_rfl)) (fun _ _ _ h => h) (Or.inl ⟨by rfl, ?_⟩) ?_ ?_
    rotate_left
    · intro w'
      go_simp
      with_reducible rfl
    rotate_left
    · simp only [Act.put, List.setIfInBounds_toArray, List.set_cons_zero, List.set_cons_succ, i64_w, i32_w]
      rfl
    refine pure_ (i := 12) (N := (some 56)) (v := ?_) (a' := ?_) #[true, true, true, true, true, true, true, true, true, true, true, true, true, false, false, false, false, false, false, false, false, false, false, false] rfl rfl (any_of HT_.out (by kernel_rfl)) (fun _ _ _ h => h) (Or.inl ⟨by rfl, ?_⟩) ?_ ?_
    rotate_left
    · intro w'
      go_simp
      with_reducible rfl
    rotate_left
    · simp only [Act.put, List.setIfInBounds_toArray, List.set_cons_zero, List.set_cons_succ, i64_w, i32_w]
      rfl
    refine pure_ (i := 13) (N := (some 57)) (v := ?_) (a' := ?_) #[true, true, true, true, true, true, true, true, true, true, true, true, true, true, false, false, false, false, false, false, false, false, false, false] rfl rfl (any_of HT_.out (by kernel_rfl)) (fun _ _ _ h => h) (Or.inl ⟨by rfl, ?_⟩) ?_ ?_
    rotate_left
    · intro w'
      go_simp
      with_reducible rfl
    rotate_left
    · simp only [Act.put, List.setIfInBounds_toArray, List.set_cons_zero, List.set_cons_succ, i64_w, i32_w]
      rfl
    refine pure_ (i := 14) (N := (some 58)) (v := ?_) (a' := ?_) #[true, true, true, true, true, true, true, true, true, true, true, true, true, true, true, false, false, false, false, false, false, false, false, false] rfl rfl (any_of HT_.out (by kernel_rfl)) (fun _ _ _ h => h) (Or.inl ⟨by rfl, ?_⟩) ?_ ?_
    rotate_left
    · intro w'
      go_simp
      with_reducible rfl
    rotate_left
    · simp only [Act.put, List.setIfInBounds_toArray, List.set_cons_zero, List.set_cons_succ, i64_w, i32_w]
      rfl
    refine pure_ (i := 17) (N := (some 61)) (v := ?_) (a' := ?_) #[true, true, true, true, true, true, true, true, true, true, true, true, true, true, true, false, false, true, false, false, false, false, false, false] rfl rfl (any_of HT_.out (by kernel_rfl)) (fun _ _ _ h => h) (Or.inl ⟨by rfl, ?_⟩) ?_ ?_
    rotate_left
    · intro w'
      go_simp
      with_reducible rfl
    rotate_left
    · simp only [Act.put, List.setIfInBounds_toArray, List.set_cons_zero, List.set_cons_succ, i64_w, i32_w]
      rfl
    refine pure_ (i := 18) (N := (some 62)) (v := ?_) (a' := ?_) #[true, true, true, true, true, true, true, true, true, true, true, true, true, true, true, false, false, true, true, false, false, false, false, false] rfl rfl (any_of HT_.out (by kernel_rfl)) (fun _ _ _ h => h) (Or.inl ⟨by rfl, ?_⟩) ?_ ?_
    rotate_left
    · intro w'
      go_simp
      with_reducible rfl
    rotate_left
    · simp only [Act.put, List.setIfInBounds_toArray, List.set_cons_zero, List.set_cons_succ, i64_w, i32_w]
      rfl
    refine one_ (i := 15) (N := (some 59)) #[true, true, true, true, true, true, true, true, true, true, true, true, true, true, true, true, false, true, true, false, false, false, false, false] rfl rfl (one_of HT_.out (by kernel_rfl)) (by decide) ?_
    intro K hK
    refine goes_ Try.func38 (by kernel_rfl) rfl #[.pointer (some ⟨w.heap.size, 0, none⟩)] (by rfl) rfl rfl (by (try simp only [List.map_toArray, List.map_cons, List.map_nil]); first | done | rfl) ?_
    refine (bytes_is HD3w.out).mono ?_
    rintro e w4 ⟨u, rfl, hr, hb⟩
    obtain ⟨A4, k4, rfl, _, hC4⟩ := BR.len hr
    refine ⟨_, rfl, ?_⟩
    have t4 := str_of (c := k4) hC4
    have HD4 := Lib.hid (HD3w.out.below hb (Nat.le_refl _))
    have HJ4 := Lib.hid (HJ3w.out.below hb (Nat.le_refl _))
    have HX4 := Lib.hid (Kd.R_below HX3w.out hb)
    have HB4 := Lib.hid (HB3w.out.trans (hb.mono HB3w.out.size))
    have HS4 := Lib.hid (HSV4.out _ HB4.out)
    clear hr hb hC4
    refine hK.out _ _ HS4.out (fun hHeld => ?_)
    clear hK K
    refine norm_ (a' := ?_) ?_ ?_
    rotate_left
    · show Act.put _ (some 59) _ = _
      simp only [Act.put, List.setIfInBounds_toArray, List.set_cons_zero, List.set_cons_succ, i64_w, i32_w]
      rfl
    refine two_ (i := 16) (j := 19) (Ni := (some 60)) (Nj := (some 63)) #[true, true, true, true, true, true, true, true, true, true, true, true, true, true, true, true, true, true, true, false, false, false, false, false] #[true, true, true, true, true, true, true, true, true, true, true, true, true, true, true, true, false, true, true, true, false, false, false, false] rfl rfl rfl rfl (two_of HT_.out (by kernel_rfl)) (by decide) (by decide) ?_ ?_
    · intro K hK
      refine value_ (w1 := ?_) (v := ?_) (by rfl) rfl ?_ ?_
      rotate_left 2
      · go_simp
        constructor
        · rfl
        · rfl
      refine hK.out _ _ HS4.out (fun hHeld => ?_)
      clear hK K
      refine norm_ (a' := ?_) ?_ ?_
      rotate_left
      · show Act.put _ (some 60) _ = _
        simp only [Act.put, List.setIfInBounds_toArray, List.set_cons_zero, List.set_cons_succ, i64_w, i32_w]
        rfl
      refine one_ (i := 19) (N := (some 63)) #[true, true, true, true, true, true, true, true, true, true, true, true, true, true, true, true, true, true, true, true, false, false, false, false] rfl rfl (one_of HT_.out (by kernel_rfl)) (by decide) ?_
      intro K hK
      refine goes_ Try.func39 (by kernel_rfl) rfl #[.pointer (some ⟨w.heap.size, 0, none⟩)] (by rfl) rfl rfl (by (try simp only [List.map_toArray, List.map_cons, List.map_nil]); first | done | rfl) ?_
      refine (len_is HD4.out).mono ?_
      rintro e w' ⟨rfl, rfl⟩
      refine ⟨_, rfl, ?_⟩
      refine hK.out _ _ HS4.out (fun hHeld => ?_)
      clear hK K
      refine norm_ (a' := ?_) ?_ ?_
      rotate_left
      · show Act.put _ (some 63) _ = _
        simp only [Act.put, List.setIfInBounds_toArray, List.set_cons_zero, List.set_cons_succ, i64_w, i32_w]
        rfl
      refine pure_ (i := 20) (N := (some 64)) (v := ?_) (a' := ?_) #[true, true, true, true, true, true, true, true, true, true, true, true, true, true, true, true, true, true, true, true, true, false, false, false] rfl rfl (any_of HT_.out (by kernel_rfl)) (fun _ _ _ h => h) (Or.inl ⟨by rfl, ?_⟩) ?_ ?_
      rotate_left
      · intro w'
        go_simp
        with_reducible rfl
      rotate_left
      · simp only [Act.put, List.setIfInBounds_toArray, List.set_cons_zero, List.set_cons_succ, i64_w, i32_w]
        rfl
      refine take_ (i := 21) (N := (some 65)) (v := ?_) (a' := ?_) #[true, true, true, true, true, true, true, true, true, true, true, true, true, true, true, true, true, true, true, true, true, true, false, false] rfl rfl (take_ofW HT_.out HW_.out (by kernel_rfl)) (fun _ _ _ h => h) (Or.inl ⟨by rfl, ?_⟩) hHeld ?_ ?_
      rotate_left
      · rintro w' s0
        go_simp
        with_reducible rfl
      rotate_left
      · simp only [Act.put, List.setIfInBounds_toArray, List.set_cons_zero, List.set_cons_succ, i64_w, i32_w]
        rfl
      refine pure_ (i := 22) (N := (some 66)) (v := ?_) (a' := ?_) #[true, true, true, true, true, true, true, true, true, true, true, true, true, true, true, true, true, true, true, true, true, true, true, false] rfl rfl (any_of HT_.out (by kernel_rfl)) (fun _ _ _ h => h) (Or.inl ⟨by rfl, ?_⟩) ?_ ?_
      rotate_left
      · intro w'
        go_simp
        with_reducible rfl
      rotate_left
      · simp only [Act.put, List.setIfInBounds_toArray, List.set_cons_zero, List.set_cons_succ, i64_w, i32_w]
        rfl
      refine pure_ (i := 23) (N := (some 67)) (v := ?_) (a' := ?_) #[true, true, true, true, true, true, true, true, true, true, true, true, true, true, true, true, true, true, true, true, true, true, true, true] rfl rfl (any_of HT_.out (by kernel_rfl)) (fun _ _ _ h => h) (Or.inl ⟨by rfl, ?_⟩) ?_ ?_
      rotate_left
      · intro w'
        go_simp
        with_reducible rfl
      rotate_left
      · simp only [Act.put, List.setIfInBounds_toArray, List.set_cons_zero, List.set_cons_succ, i64_w, i32_w]
        rfl
      refine done_ (done_of HT_.out (by kernel_rfl)) ?_
      clear HT_ HW_ HS4 HSV4 HSV HD3w HJ3w HX3w HB3w
      go_upto_region 10 with (first
        | (go_at_call 72; refine (jopen_is HD4.out HFB.out HF.out).mono ?_; rintro e w5 ⟨J5, vE5, vL5, v5, rfl, hJ, hj, he, hl, hd, hs⟩; rw [HFS.out] at hd; obtain ⟨A5, k5, rfl, _, hC5⟩ := ER.C hl; have hX5 : ER w5 _ _ xs := hs.Rt HD4.out HX4.out (by decide) (by decide); obtain ⟨A6, k6, e6, _, hC6⟩ := ER.C hX5; cases e6; have HB5 := Lib.hid (HB4.out.trans (hs.below HD4.out)); have HJ5 := Lib.hid (HJ4.out.acted hs hd); have HEN := Lib.hid (entries18_yes w5 AL A5 cL k5 xs hC6 hC5); clear hj he hl hd hs hC5 hC6 hX5 hJ)
        | (go_at_call 73; refine HEN.out.mono ?_; rintro e w6 ⟨rfl, hb⟩; have HB6 := Lib.hid (HB5.out.trans (hb.mono HB5.out.size)); have HJ6 := Lib.hid (HJ5.out.below hb (Nat.le_refl _)); clear hb))
      have hO := open_any A1 c1 b (fs.length : Int) w6 (Kd.C_below HC.out HB6.out) hc1 HBB.out (by omega)
      obtain ⟨⟨y, nx, er⟩, ho⟩ : ∃ q, openF b (fs.length : Int) = q := ⟨_, rfl⟩
      have hE := HOE.out
      rw [ho] at hO hE
      simp only at hO hE
      have HO := Lib.hid hO
      have HEE := Lib.hid hE
      have HYB : Hid (areBytesN y = true) := Lib.hid (by have := openF_bytes b (fs.length : Int) HBB.out; rw [ho] at this; exact this)
      clear hO hE ho HEN HJ4 HJ5 HX4 HD4
      by_cases h1 : er = 0
      · have hne : (getEntryF y).2 ≠ 0 := HEE.out.resolve_left (fun h => h h1)
        subst h1
        obtain ⟨⟨x, e2⟩, hx⟩ : ∃ q, getEntryF y = q := ⟨_, rfl⟩
        rw [hx] at hne
        simp only at hne
        have t2 : (e2 == 0) = false := by simpa using hne
        have HGX := Lib.hid hx
        clear hx hne
        by_cases h2 : (fs.length : Int) < nx
        · have t3 : decide (nx > (fs.length : Int)) = true := by simpa using h2
          have t4 : decide ((fs.length : Int) < nx) = true := by simpa using h2
          go_wp2_with (first
            | (go_at_call 39; refine (len_is HJ6.out.disk).mono ?_; rintro e w' ⟨rfl, rfl⟩)
            | (go_at_call 39; refine (len_is HJ7.out.disk).mono ?_; rintro e w' ⟨rfl, rfl⟩)
            | (go_at_call 22; refine HO.out.mono ?_; rintro e w7 ⟨v, rfl, hr, hb⟩; obtain ⟨A7, k7, rfl, hk7, hC7⟩ := BR.len hr; have HB7 := Lib.hid (HB6.out.trans (hb.mono HB6.out.size)); have HJ7 := Lib.hid (HJ6.out.below hb (Nat.le_refl _)); have hG := getEntry_is w7 A7 k7 y hC7 hk7 HYB.out; rw [HGX.out] at hG; have HG := Lib.hid hG; clear hr hb hC7 hk7 hG HJ6)
            | (go_at_call 23; refine HG.out.mono ?_; rintro e w8 ⟨u, rfl, ⟨u8, rfl, ht⟩, hb⟩; obtain ⟨A8, k8, rfl, _, _⟩ := TR.C ht; have HB8 := Lib.hid (HB7.out.trans (hb.mono HB7.out.size)); have hbx : Below w8.heap.size w8 (w8.alloc (entO x A8 k8)) := (Below.refl _ _).alloc (Nat.le_refl _) _; have HB9 := Lib.hid (HB8.out.trans (hbx.mono HB8.out.size)); have HJ9 := Lib.hid ((HJ7.out.below hb (Nat.le_refl _)).below hbx (Nat.le_refl _)); clear hb ht hbx)
            | (go_at_call 74; refine (jlen_is HJ9.out).mono ?_; rintro e w' ⟨rfl, rfl⟩)
            | (go_at_call 71; refine (awake18_is _).mono ?_; rintro e wa ⟨rfl, hb⟩; have HBa := Lib.hid (HB9.out.trans (hb.mono HB9.out.size)); clear hb))
          go_ret
          exact ⟨rfl, HBa.out⟩
        · have t3 : decide (nx > (fs.length : Int)) = false := by simpa using h2
          have t4 : decide ((fs.length : Int) < nx) = false := by simpa using h2
          go_wp2_with (first
            | (go_at_call 39; refine (len_is HJ6.out.disk).mono ?_; rintro e w' ⟨rfl, rfl⟩)
            | (go_at_call 39; refine (len_is HJ7.out.disk).mono ?_; rintro e w' ⟨rfl, rfl⟩)
            | (go_at_call 22; refine HO.out.mono ?_; rintro e w7 ⟨v, rfl, hr, hb⟩; obtain ⟨A7, k7, rfl, _, _⟩ := BR.len hr; have HB7 := Lib.hid (HB6.out.trans (hb.mono HB6.out.size)); have HJ7 := Lib.hid (HJ6.out.below hb (Nat.le_refl _)); clear hr hb HJ6)
            | (go_at_call 74; refine (jlen_is HJ7.out).mono ?_; rintro e w' ⟨rfl, rfl⟩)
            | (go_at_call 71; refine (awake18_is _).mono ?_; rintro e wa ⟨rfl, hb⟩; have HBa := Lib.hid (HB7.out.trans (hb.mono HB7.out.size)); clear hb))
          go_ret
          exact ⟨rfl, HBa.out⟩
      · have t1 : (er == 0) = false := by simpa using h1
        go_wp2_with (first
          | (go_at_call 39; refine (len_is HJ6.out.disk).mono ?_; rintro e w' ⟨rfl, rfl⟩)
          | (go_at_call 22; refine HO.out.mono ?_; rintro e w7 ⟨v, rfl, hr, hb⟩; obtain ⟨A7, k7, rfl, _, _⟩ := BR.len hr; have HB7 := Lib.hid (HB6.out.trans (hb.mono HB6.out.size)); have HJ7 := Lib.hid (HJ6.out.below hb (Nat.le_refl _)); clear hr hb)
          | (go_at_call 74; refine (jlen_is HJ7.out).mono ?_; rintro e w' ⟨rfl, rfl⟩)
          | (go_at_call 71; refine (awake18_is _).mono ?_; rintro e wa ⟨rfl, hb⟩; have HBa := Lib.hid (HB7.out.trans (hb.mono HB7.out.size)); clear hb))
        go_ret
        exact ⟨rfl, HBa.out⟩
    · intro K hK
      refine goes_ Try.func39 (by kernel_rfl) rfl #[.pointer (some ⟨w.heap.size, 0, none⟩)] (by rfl) rfl rfl (by (try simp only [List.map_toArray, List.map_cons, List.map_nil]); first | done | rfl) ?_
      refine (len_is HD4.out).mono ?_
      rintro e w' ⟨rfl, rfl⟩
      refine ⟨_, rfl, ?_⟩
      refine hK.out _ _ HS4.out (fun hHeld => ?_)
      clear hK K
      refine norm_ (a' := ?_) ?_ ?_
      rotate_left
      · show Act.put _ (some 63) _ = _
        simp only [Act.put, List.setIfInBounds_toArray, List.set_cons_zero, List.set_cons_succ, i64_w, i32_w]
        rfl
      refine pure_ (i := 20) (N := (some 64)) (v := ?_) (a' := ?_) #[true, true, true, true, true, true, true, true, true, true, true, true, true, true, true, true, false, true, true, true, true, false, false, false] rfl rfl (any_of HT_.out (by kernel_rfl)) (fun _ _ _ h => h) (Or.inl ⟨by rfl, ?_⟩) ?_ ?_
      rotate_left
      · intro w'
        go_simp
        with_reducible rfl
      rotate_left
      · simp only [Act.put, List.setIfInBounds_toArray, List.set_cons_zero, List.set_cons_succ, i64_w, i32_w]
        rfl
      refine take_ (i := 21) (N := (some 65)) (v := ?_) (a' := ?_) #[true, true, true, true, true, true, true, true, true, true, true, true, true, true, true, true, false, true, true, true, true, true, false, false] rfl rfl (take_ofW HT_.out HW_.out (by kernel_rfl)) (fun _ _ _ h => h) (Or.inl ⟨by rfl, ?_⟩) hHeld ?_ ?_
      rotate_left
      · rintro w' s0
        go_simp
        with_reducible rfl
      rotate_left
      · simp only [Act.put, List.setIfInBounds_toArray, List.set_cons_zero, List.set_cons_succ, i64_w, i32_w]
        rfl
      refine one_ (i := 16) (N := (some 60)) #[true, true, true, true, true, true, true, true, true, true, true, true, true, true, true, true, true, true, true, true, true, true, false, false] rfl rfl (one_of HT_.out (by kernel_rfl)) (by decide) ?_
      intro K hK
      refine value_ (w1 := ?_) (v := ?_) (by rfl) rfl ?_ ?_
      rotate_left 2
      · go_simp
        constructor
        · rfl
        · rfl
      refine hK.out _ _ HS4.out (fun hHeld => ?_)
      clear hK K
      refine norm_ (a' := ?_) ?_ ?_
      rotate_left
      · show Act.put _ (some 60) _ = _
        simp only [Act.put, List.setIfInBounds_toArray, List.set_cons_zero, List.set_cons_succ, i64_w, i32_w]
        rfl
      refine pure_ (i := 22) (N := (some 66)) (v := ?_) (a' := ?_) #[true, true, true, true, true, true, true, true, true, true, true, true, true, true, true, true, true, true, true, true, true, true, true, false] rfl rfl (any_of HT_.out (by kernel_rfl)) (fun _ _ _ h => h) (Or.inl ⟨by rfl, ?_⟩) ?_ ?_
      rotate_left
      · intro w'
        go_simp
        with_reducible rfl
      rotate_left
      · simp only [Act.put, List.setIfInBounds_toArray, List.set_cons_zero, List.set_cons_succ, i64_w, i32_w]
        rfl
      refine pure_ (i := 23) (N := (some 67)) (v := ?_) (a' := ?_) #[true, true, true, true, true, true, true, true, true, true, true, true, true, true, true, true, true, true, true, true, true, true, true, true] rfl rfl (any_of HT_.out (by kernel_rfl)) (fun _ _ _ h => h) (Or.inl ⟨by rfl, ?_⟩) ?_ ?_
      rotate_left
      · intro w'
        go_simp
        with_reducible rfl
      rotate_left
      · simp only [Act.put, List.setIfInBounds_toArray, List.set_cons_zero, List.set_cons_succ, i64_w, i32_w]
        rfl
      refine done_ (done_of HT_.out (by kernel_rfl)) ?_
      clear HT_ HW_ HS4 HSV4 HSV HD3w HJ3w HX3w HB3w
      go_upto_region 10 with (first
        | (go_at_call 72; refine (jopen_is HD4.out HFB.out HF.out).mono ?_; rintro e w5 ⟨J5, vE5, vL5, v5, rfl, hJ, hj, he, hl, hd, hs⟩; rw [HFS.out] at hd; obtain ⟨A5, k5, rfl, _, hC5⟩ := ER.C hl; have hX5 : ER w5 _ _ xs := hs.Rt HD4.out HX4.out (by decide) (by decide); obtain ⟨A6, k6, e6, _, hC6⟩ := ER.C hX5; cases e6; have HB5 := Lib.hid (HB4.out.trans (hs.below HD4.out)); have HJ5 := Lib.hid (HJ4.out.acted hs hd); have HEN := Lib.hid (entries18_yes w5 AL A5 cL k5 xs hC6 hC5); clear hj he hl hd hs hC5 hC6 hX5 hJ)
        | (go_at_call 73; refine HEN.out.mono ?_; rintro e w6 ⟨rfl, hb⟩; have HB6 := Lib.hid (HB5.out.trans (hb.mono HB5.out.size)); have HJ6 := Lib.hid (HJ5.out.below hb (Nat.le_refl _)); clear hb))
      have hO := open_any A1 c1 b (fs.length : Int) w6 (Kd.C_below HC.out HB6.out) hc1 HBB.out (by omega)
      obtain ⟨⟨y, nx, er⟩, ho⟩ : ∃ q, openF b (fs.length : Int) = q := ⟨_, rfl⟩
      have hE := HOE.out
      rw [ho] at hO hE
      simp only at hO hE
      have HO := Lib.hid hO
      have HEE := Lib.hid hE
      have HYB : Hid (areBytesN y = true) := Lib.hid (by have := openF_bytes b (fs.length : Int) HBB.out; rw [ho] at this; exact this)
      clear hO hE ho HEN HJ4 HJ5 HX4 HD4
      by_cases h1 : er = 0
      · have hne : (getEntryF y).2 ≠ 0 := HEE.out.resolve_left (fun h => h h1)
        subst h1
        obtain ⟨⟨x, e2⟩, hx⟩ : ∃ q, getEntryF y = q := ⟨_, rfl⟩
        rw [hx] at hne
        simp only at hne
        have t2 : (e2 == 0) = false := by simpa using hne
        have HGX := Lib.hid hx
        clear hx hne
        by_cases h2 : (fs.length : Int) < nx
        · have t3 : decide (nx > (fs.length : Int)) = true := by simpa using h2
          have t4 : decide ((fs.length : Int) < nx) = true := by simpa using h2
          go_wp2_with (first
            | (go_at_call 39; refine (len_is HJ6.out.disk).mono ?_; rintro e w' ⟨rfl, rfl⟩)
            | (go_at_call 39; refine (len_is HJ7.out.disk).mono ?_; rintro e w' ⟨rfl, rfl⟩)
            | (go_at_call 22; refine HO.out.mono ?_; rintro e w7 ⟨v, rfl, hr, hb⟩; obtain ⟨A7, k7, rfl, hk7, hC7⟩ := BR.len hr; have HB7 := Lib.hid (HB6.out.trans (hb.mono HB6.out.size)); have HJ7 := Lib.hid (HJ6.out.below hb (Nat.le_refl _)); have hG := getEntry_is w7 A7 k7 y hC7 hk7 HYB.out; rw [HGX.out] at hG; have HG := Lib.hid hG; clear hr hb hC7 hk7 hG HJ6)
            | (go_at_call 23; refine HG.out.mono ?_; rintro e w8 ⟨u, rfl, ⟨u8, rfl, ht⟩, hb⟩; obtain ⟨A8, k8, rfl, _, _⟩ := TR.C ht; have HB8 := Lib.hid (HB7.out.trans (hb.mono HB7.out.size)); have hbx : Below w8.heap.size w8 (w8.alloc (entO x A8 k8)) := (Below.refl _ _).alloc (Nat.le_refl _) _; have HB9 := Lib.hid (HB8.out.trans (hbx.mono HB8.out.size)); have HJ9 := Lib.hid ((HJ7.out.below hb (Nat.le_refl _)).below hbx (Nat.le_refl _)); clear hb ht hbx)
            | (go_at_call 74; refine (jlen_is HJ9.out).mono ?_; rintro e w' ⟨rfl, rfl⟩)
            | (go_at_call 71; refine (awake18_is _).mono ?_; rintro e wa ⟨rfl, hb⟩; have HBa := Lib.hid (HB9.out.trans (hb.mono HB9.out.size)); clear hb))
          go_ret
          exact ⟨rfl, HBa.out⟩
        · have t3 : decide (nx > (fs.length : Int)) = false := by simpa using h2
          have t4 : decide ((fs.length : Int) < nx) = false := by simpa using h2
          go_wp2_with (first
            | (go_at_call 39; refine (len_is HJ6.out.disk).mono ?_; rintro e w' ⟨rfl, rfl⟩)
            | (go_at_call 39; refine (len_is HJ7.out.disk).mono ?_; rintro e w' ⟨rfl, rfl⟩)
            | (go_at_call 22; refine HO.out.mono ?_; rintro e w7 ⟨v, rfl, hr, hb⟩; obtain ⟨A7, k7, rfl, _, _⟩ := BR.len hr; have HB7 := Lib.hid (HB6.out.trans (hb.mono HB6.out.size)); have HJ7 := Lib.hid (HJ6.out.below hb (Nat.le_refl _)); clear hr hb HJ6)
            | (go_at_call 74; refine (jlen_is HJ7.out).mono ?_; rintro e w' ⟨rfl, rfl⟩)
            | (go_at_call 71; refine (awake18_is _).mono ?_; rintro e wa ⟨rfl, hb⟩; have HBa := Lib.hid (HB7.out.trans (hb.mono HB7.out.size)); clear hb))
          go_ret
          exact ⟨rfl, HBa.out⟩
      · have t1 : (er == 0) = false := by simpa using h1
        go_wp2_with (first
          | (go_at_call 39; refine (len_is HJ6.out.disk).mono ?_; rintro e w' ⟨rfl, rfl⟩)
          | (go_at_call 22; refine HO.out.mono ?_; rintro e w7 ⟨v, rfl, hr, hb⟩; obtain ⟨A7, k7, rfl, _, _⟩ := BR.len hr; have HB7 := Lib.hid (HB6.out.trans (hb.mono HB6.out.size)); have HJ7 := Lib.hid (HJ6.out.below hb (Nat.le_refl _)); clear hr hb)
          | (go_at_call 74; refine (jlen_is HJ7.out).mono ?_; rintro e w' ⟨rfl, rfl⟩)
          | (go_at_call 71; refine (awake18_is _).mono ?_; rintro e wa ⟨rfl, hb⟩; have HBa := Lib.hid (HB7.out.trans (hb.mono HB7.out.size)); clear hb))
        go_ret
        exact ⟨rfl, HBa.out⟩
theorem jtorn_row (A1 : Option Addr) (c1 : Nat) (b : List Int) (w : World) (hr1 : Kd.C (Kd.int .u8) w A1 b.length b) (hc1 : b.length ≤ c1) (hw : b.length * 1 ≤ 140737488351232 ∧ ∀ x ∈ b, (Lit.int .u8 x).wf = true) :
    Calls Try.prog 12 #[.slice A1 b.length c1] w fun e w' => e = .returned (.bool true) ∧ Below w.heap.size w w' := jtorn_walk A1 c1 b w hr1 hc1 (bytes_wf hw.2)
end Go.Proofs.Ytmbnjgnmblgjoaa.Man
end

-- LawJournalTorn
section
-- Written by a program of this session (wip/tools/row5.py). Not trusted: Lean checks it.










namespace Go.Proofs.Ytmbnjgnmblgjoaa.journalTorn
open Go.ChangeShapes Go.WideShapes Go.ChangeAt Go.RowKit Go.Proofs.Ytmbnjgnmblgjoaa.Open
open Go.ChangeMaps (open_string shut_string)
set_option linter.unusedVariables false
theorem own : ownKnob Try.prog.godebug = none := by kernel_rfl
theorem laidOut : laidOutB Try.prog = true := by kernel_rfl
set_option maxRecDepth 100000 in
theorem lifted (os : Os) (started : os.Started) (H : Type) (enc : TypeId × Value → H) :
    ReturnsInHanded {} Try.checked os 12 .any (Rows.journalTornSpec.pre6 enc Try.prog Try.f12 Rows.journalTornRow.domain false) (Rows.journalTornSpec.post enc Try.prog Try.f12 false true false false) := by
  refine returnsInHanded_of_change_sized (C := Try.checked) own started (by kernel_rfl) Try.func12
    (ChangeSpec.witness6 (enc := enc) (C := Try.checked) false ⟨#[], #[.slice none 0 0], []⟩ 12 (by kernel_rfl) (by kernel_rfl) (by kernel_rfl) (by kernel_rfl)) ?_
  intro W base args ds gs before hval0 hW hcnd hsz0 _
  have hsz : (DataW.weightsEach Try.prog (Try.f12.params.toList ++ Rows.journalTornSpec.plain.varTypes Try.prog) (ds ++ gs)).all (· ≤ reachBytes) = true := hsz0
  have hval : ∀ (j : Nat) t v, Try.f12.params[j]? = some t → args[j]? = some v → Value.okWide Try.prog W .any base t v := hval0
  have hW' := hW
  obtain ⟨p, q, hA0, hV, rfl, hfz, hnd⟩ := hW
  have hA : DataW.TrodAll enc Try.prog W 0 (fun _ => true) true Try.f12.params.toList args.toList ds p := hA0
  rw [Try.params12] at hA hval hsz
  obtain ⟨v0, vs0, d0, ds0, p0, q0, hargs, rfl, rfl, h0, r0⟩ := trodAll_cons hA
  obtain ⟨rfl, rfl, rfl⟩ := trodAll_nil r0
  obtain rfl : args = #[v0] := by cases args; simp_all
  obtain ⟨rfl, rfl⟩ := trodVars_none hV
  obtain ⟨a0, len0, cap0, rfl⟩ := okWide_slice Try.underlying27 (hval 0 27 v0 rfl rfl)
  obtain ⟨z0, rfl, c0, k0, w0, b0⟩ := Opens.slice_arg opens_bytes hsz (j := 0) (t := 27) rfl rfl h0
  have kt0 := h0
  have lt0 : ∀ x ∈ p0, x.block < W.heap.size := by obtain ⟨m, hm⟩ := kt0; exact DataW.trod_lt m _ _ _ hm
  clear hA0 hval0 hsz0 hsz
  refine (Man.jtorn_row a0 cap0 z0 W k0 c0 w0).mono fun e W' ⟨he, bel⟩ => ?_
  subst he
  exact ⟨_, rfl, _, _, _, [], _, [], hW', trodAll_mk1 (shut_bool Try.underlying4 _), (trodAll_cons_mk (Below.trod laidOut (by kernel_rfl) (of_decide_eq_true (by kernel_rfl)) kt0 bel lt0) trodAll_mk0), rfl, bel.frame _, fun h => by cases h⟩
theorem over : Rows.journalTornRow.holds Try.pinned (OpenSpec.ofChange Rows.journalTornSpec) :=
  OpenClaim.holds_of_wide 12 Try.f12 rfl rfl rfl rfl rfl rfl rfl ⟨rfl, rfl, rfl, rfl, rfl⟩ rfl rfl rfl rfl rfl (by kernel_rfl) Try.func12 (by kernel_rfl)
    (of_decide_eq_true (by kernel_rfl)) (by unfold Func.isWrapper; first | (rw [if_pos (by decide +kernel)]; kernel_rfl) | (rw [if_neg (by decide +kernel)]; exact ⟨rfl, rfl⟩))
    (fun os started H enc _ => lifted os started H enc)
theorem proved : Rows.JournalTornSaid := over
#print axioms proved
end Go.Proofs.Ytmbnjgnmblgjoaa.journalTorn
namespace Go.Proofs.Ytmbnjgnmblgjoaa
/-- The row, under a short name, for the claim. -/
theorem journalTorn_holds : Rows.JournalTornSaid := journalTorn.proved
end Go.Proofs.Ytmbnjgnmblgjoaa
end
