/- What tokens, entries, messages read as. -/
import Derived.Test.YtmbnjgnmblgjoaaOpensBytes
import Derived.Test.YtmbnjgnmblgjoaaPutMsg
namespace Go.Proofs.Ytmbnjgnmblgjoaa.Open
open Go.RowKit Go.ChangeShapes Go.WideShapes Go.Proofs.YtmbnjgnmblgjoaaW.PrintWords
set_option linter.unusedVariables false
/-- Opens, OpensF, shut up in a structure: Lean does not look through them. -/
structure OP {α : Type} (P : Program) (t : TypeId) (K : Kd α) (bk : α → Nat) : Prop where
  out : Opens P t K (fun _ => True) bk
structure OF {α : Type} (P : Program) (o : Nat) (fs : List Field) (K : Kd α) (bk : α → Nat) : Prop where
  out : OpensF P o fs K (fun _ => True) bk
theorem OP.of {α : Type} {P : Program} {t : TypeId} {K : Kd α} {wf : α → Prop} {bk bk' : α → Nat} (h : Opens P t K wf bk) (hb : ∀ x, bk' x ≤ bk x) : OP P t K bk' := ⟨by
  intro H enc w fuel cs d ps hd hwt
  obtain ⟨x, k1, k2, k3⟩ := h enc w fuel cs d ps hd hwt
  exact ⟨x, k1, trivial, Nat.le_trans (hb x) k3⟩⟩
theorem OF.of {α : Type} {P : Program} {o : Nat} {fs : List Field} {K : Kd α} {wf : α → Prop} {bk bk' : α → Nat} (h : OpensF P o fs K wf bk) (hb : ∀ x, bk' x ≤ bk x) : OF P o fs K bk' := ⟨by
  intro H enc w n cs ys hl hy hwt
  obtain ⟨x, k1, k2, k3⟩ := h enc w n cs ys hl hy hwt
  exact ⟨x, k1, trivial, Nat.le_trans (hb x) k3⟩⟩
theorem op_int : OP Try.prog 3 (Kd.int .i64) (fun _ => 0) := .of (opens_int Try.underlying3) (fun _ => Nat.zero_le _)
theorem OF.cons {α β : Type} {P : Program} {o : Nat} {f : Field} {fs : List Field} {K : Kd α} {K' : Kd β} {bk : α → Nat} {bk' : β → Nat} (ho : f.offset = o) (hc : P.cellsOf f.type = K.sz) (h : OP P f.type K bk) (h' : OF P (o + K.sz) fs K' bk') : OF P o (f :: fs) (Kd.pair K K') (fun x => bk x.1 + bk' x.2) :=
  .of (opensF_cons ho hc h.out h'.out) (fun _ => Nat.le_refl _)
theorem OF.one {α : Type} {P : Program} {o : Nat} {f : Field} {K : Kd α} {bk : α → Nat} (ho : f.offset = o) (hc : P.cellsOf f.type = K.sz) (h : OP P f.type K bk) : OF P o [f] K bk := .of (opensF_one ho hc h.out) (fun _ => Nat.le_refl _)
theorem OP.struct {α β : Type} {P : Program} {t : TypeId} {fs : Array Field} {l : List Field} {K : Kd α} {bk : α → Nat} (f : β → α) (g : α → β) (hfg : ∀ a, f (g a) = a) (ht : P.underlying t = some (.struct fs)) (hl : fs.toList = l) (hc : P.cellsOf t = K.sz) (h : OF P 0 l K bk) : OP P t (Kd.iso K f) (fun x => bk (f x) + 1) :=
  .of (opens_iso f g hfg (opens_struct ht hl hc h.out)) (fun _ => Nat.le_refl _)
theorem OP.slice {α : Type} {P : Program} {t e : TypeId} {K : Kd α} {bk : α → Nat} (ht : P.underlying t = some (.slice e)) (hc : P.cellsOf e = K.sz) (h : OP P e K bk) : OP P t (Kd.slice e K) (fun xs => sum1 bk xs + 1) :=
  .of (opens_slice ht hc (B := P.bytesOf e) rfl h.out e) (fun _ => Nat.le_refl _)
theorem OP.le {α : Type} {P : Program} {t : TypeId} {K : Kd α} {bk bk' : α → Nat} (h : OP P t K bk) (hb : ∀ x, bk' x ≤ bk x) : OP P t K bk' := .of h.out hb
theorem OF.le {α : Type} {P : Program} {o : Nat} {fs : List Field} {K : Kd α} {bk bk' : α → Nat} (h : OF P o fs K bk) (hb : ∀ x, bk' x ≤ bk x) : OF P o fs K bk' := .of h.out hb
/-- One more field that is a whole number. -/
theorem fint {β : Type} {o : Nat} {f : Field} {fs : List Field} {K' : Kd β} {bk' : β → Nat} (ho : f.offset = o) (ht : f.type = 3) (hc : Try.prog.cellsOf f.type = 1) (h' : OF Try.prog (o + 1) fs K' bk') : OF Try.prog o (f :: fs) (Kd.pair (Kd.int .i64) K') (fun x => 0 + bk' x.2) :=
  OF.cons (K := Kd.int .i64) ho hc (by rw [ht]; exact op_int) h'
theorem fint1 {o : Nat} {f : Field} (ho : f.offset = o) (ht : f.type = 3) (hc : Try.prog.cellsOf f.type = 1) : OF Try.prog o [f] (Kd.int .i64) (fun _ => 0) := OF.one (K := Kd.int .i64) ho hc (by rw [ht]; exact op_int)

theorem op_tok : OP Try.prog 111 K.k111 (fun _ => 1) := by
  refine OP.le (OP.struct (bk := fun _ => 0) (fun x : K.S111 => (x.f0, x.f1, x.f2, x.f3)) (fun p => ⟨p.1, p.2.1, p.2.2.1, p.2.2.2⟩) (fun _ => rfl) (l := [_, _, _, _]) Try.underlying111 rfl (by kernel_rfl) ?h) (fun _ => by omega)
  case h => exact OF.le (fint rfl rfl (by kernel_rfl) (fint rfl rfl (by kernel_rfl) (fint rfl rfl (by kernel_rfl) (fint1 rfl rfl (by kernel_rfl))))) (fun _ => by (try simp only); omega)
theorem op_toks : OP Try.prog 22 (Kd.slice 111 K.k111) (fun xs => xs.length) := (OP.slice Try.underlying22 (by kernel_rfl) op_tok).le (fun xs => by rw [sum1_const]; omega)
theorem op_step : OP Try.prog 24 K.k24 (fun x => x.f6.length + 1) := by
  refine OP.le (OP.struct (bk := fun p => p.2.2.2.2.2.2.1.length) (fun x : K.S24 => (x.f0, x.f1, x.f2, x.f3, x.f4, x.f5, x.f6, x.f7)) (fun p => ⟨p.1, p.2.1, p.2.2.1, p.2.2.2.1, p.2.2.2.2.1, p.2.2.2.2.2.1, p.2.2.2.2.2.2.1, p.2.2.2.2.2.2.2⟩) (fun _ => rfl) (l := [_, _, _, _, _, _, _, _]) Try.underlying24 rfl (by kernel_rfl) ?h) (fun x => ?b)
  case h => exact OF.le (fint rfl rfl (by kernel_rfl) (fint rfl rfl (by kernel_rfl) (fint rfl rfl (by kernel_rfl) (fint rfl rfl (by kernel_rfl) (fint rfl rfl (by kernel_rfl) (fint rfl rfl (by kernel_rfl) (OF.cons (K := Kd.slice 111 K.k111) rfl (by kernel_rfl) op_toks (fint1 rfl rfl (by kernel_rfl))))))))) (fun _ => by (try simp only); omega)
  case b => simp only; omega
theorem op_entry : OP Try.prog 26 K.k26 (fun x => x.f2.f6.length + 1) := by
  refine OP.le (OP.struct (bk := fun p => p.2.2.f6.length + 1) (fun x : K.S26 => (x.f0, x.f1, x.f2)) (fun p => ⟨p.1, p.2.1, p.2.2⟩) (fun _ => rfl) (l := [_, _, _]) Try.underlying26 rfl (by kernel_rfl) ?h) (fun x => ?b)
  case h => exact OF.le (fint rfl rfl (by kernel_rfl) (fint rfl rfl (by kernel_rfl) (OF.one (K := K.k24) rfl (by kernel_rfl) op_step))) (fun _ => by (try simp only); omega)
  case b => simp only; omega
theorem op_ents : OP Try.prog 69 (Kd.slice 26 K.k26) (fun xs => sum1 (fun x : K.S26 => x.f2.f6.length + 1) xs + 1) := OP.slice Try.underlying69 (by kernel_rfl) op_entry
/-- The kind of messages. -/
def kMsg : Kd Man.MsgL := Kd.iso (Kd.pair (Kd.int .i64) (Kd.pair (Kd.int .i64) (Kd.pair (Kd.int .i64) (Kd.slice 26 K.k26)))) (fun m : Man.MsgL => (m.k, m.who, m.ver, m.l))
theorem kMsg_open {w : World} {m : Man.MsgL} {cs : List Value} (h : kMsg.K w m cs) : ∃ A c, cs = [.int .i64 m.k, .int .i64 m.who, .int .i64 m.ver, .slice A m.l.length c] ∧ m.l.length ≤ c ∧ K.k26.C w A m.l.length m.l := by
  obtain ⟨_, _, rfl, rfl, ⟨_, _, rfl, rfl, ⟨_, _, rfl, rfl, ⟨A, c, rfl, l, g⟩⟩⟩⟩ := h
  exact ⟨A, c, rfl, l, g⟩
theorem op_msg : OP Try.prog 71 kMsg (fun _ => 0) := by
  refine OP.le (OP.struct (bk := fun _ => 0) (fun m : Man.MsgL => (m.k, m.who, m.ver, m.l)) (fun p => ⟨p.1, p.2.1, p.2.2.1, p.2.2.2⟩) (fun _ => rfl) (l := [_, _, _, _]) Try.underlying71 rfl (by kernel_rfl) ?h) (fun x => Nat.zero_le _)
  case h => exact OF.le (fint rfl rfl (by kernel_rfl) (fint rfl rfl (by kernel_rfl) (fint rfl rfl (by kernel_rfl) (OF.one (K := Kd.slice 26 K.k26) rfl (by kernel_rfl) op_ents)))) (fun _ => by (try simp only); omega)
theorem opens_toks : Opens Try.prog 22 (Kd.slice 111 K.k111) (fun _ => True) (fun xs => xs.length) := op_toks.out
theorem opens_entry : Opens Try.prog 26 K.k26 (fun _ => True) (fun x => x.f2.f6.length + 1) := op_entry.out
theorem opens_ents : Opens Try.prog 69 (Kd.slice 26 K.k26) (fun _ => True) (fun xs => sum1 (fun x : K.S26 => x.f2.f6.length + 1) xs + 1) := op_ents.out
theorem opens_msg : Opens Try.prog 71 kMsg (fun _ => True) (fun _ => 0) := op_msg.out
end Go.Proofs.Ytmbnjgnmblgjoaa.Open
