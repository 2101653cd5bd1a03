/- What an argument reads as: of any type that is built of numbers, bools, slices and structs; and what its sizes are. -/
import Derived.Test.YtmbnjgnmblgjoaaRows
import Derived.Test.YtmbnjgnmblgjoaaWWords
import Derived.Deep.Slices
import Derived.ChangeArms
import Derived.SizedLaws
import Derived.WideShapes
import Derived.KernelRfl
namespace Go.Proofs.Ytmbnjgnmblgjoaa.Open
open Go.RowKit Go.ChangeShapes Go.WideShapes Go.Proofs.YtmbnjgnmblgjoaaW.PrintWords
set_option linter.unusedVariables false

/-- Whatever reads at type t is of the kind K, fits (wf), and is no greater than its bulk. -/
def Opens {α : Type} (P : Program) (t : TypeId) (K : Kd α) (wf : α → Prop) (bk : α → Nat) : Prop :=
  ∀ {H : Type} (enc : TypeId × Value → H) (w : World) (fuel : Nat) (cs : List Value) (d : DataW H) (ps : List MemPlace), DataW.trod enc P w 0 (fun _ => true) true fuel t cs = some (d, ps) →
    (DataW.weights P t d).all (· ≤ reachBytes) = true → ∃ x, K.K w x cs ∧ wf x ∧ bk x ≤ Rows.uptoBulk d

theorem opens_int {P : Program} {t : TypeId} {k : IntKind} (ht : P.underlying t = some (.int k)) : Opens P t (Kd.int k) (fun n => (Lit.int k n).wf = true) (fun _ => 1) := by
  intro H enc w fuel cs d ps h _
  obtain ⟨n, rfl, hd, hw⟩ := DataW.trod_int ht h
  obtain ⟨rfl, _⟩ := Prod.mk.inj hd
  exact ⟨n, rfl, hw, Nat.le_refl _⟩

def sum1 {α : Type} (bk : α → Nat) : List α → Nat
  | [] => 0
  | x :: l => bk x + sum1 bk l
theorem sum1_append {α : Type} (bk : α → Nat) : ∀ l r : List α, sum1 bk (l ++ r) = sum1 bk l + sum1 bk r
  | [], r => by simp [sum1]
  | x :: l, r => by simp [sum1, sum1_append bk l r, Nat.add_assoc]
theorem bulk_one {H : Type} (d : DataW H) : 1 ≤ Rows.uptoBulk d := by
  cases d with
  | lit l => cases l <;> simp [Rows.uptoBulk]
  | nil => simp [Rows.uptoBulk]
  | ptr d => simp [Rows.uptoBulk]
  | slice elems spare => simp [Rows.uptoBulk]
  | agg parts => simp [Rows.uptoBulk]
  | iface t d => simp [Rows.uptoBulk]
  | map entries => simp [Rows.uptoBulk]
  | held h => simp [Rows.uptoBulk]
theorem weights_in {H : Type} {P : Program} {e : TypeId} : ∀ {l : List (DataW H)} {d : DataW H}, d ∈ l → ∀ n ∈ d.weights P e, n ∈ DataW.weightsAll P e l
  | x :: l, d, h, n, hn => by
    rw [DataW.weightsAll, List.mem_append]
    rcases List.mem_cons.1 h with rfl | h
    · exact .inl hn
    · exact .inr (weights_in h n hn)

theorem list_of {α : Type} {n : Nat} {p : Nat → α → Prop} (h : ∀ i, i < n → ∃ x, p i x) : ∃ xs : List α, xs.length = n ∧ ∀ i x, xs[i]? = some x → p i x := by
  induction n with
  | zero => exact ⟨[], rfl, fun i x hx => by simp at hx⟩
  | succ n ih =>
    obtain ⟨xs, hl, hx⟩ := ih (fun i hi => h i (by omega))
    obtain ⟨x, hp⟩ := h n (by omega)
    refine ⟨xs ++ [x], by simp [hl], fun i y hy => ?_⟩
    rcases Nat.lt_or_ge i n with hi | hi
    · rw [List.getElem?_append_left (by omega)] at hy
      exact hx i y hy
    · have hlt := (List.getElem?_eq_some_iff.1 hy).1
      rw [List.length_append, hl, List.length_singleton] at hlt
      have hin : i = n := by omega
      subst hin
      rw [List.getElem?_append_right (by omega), hl] at hy
      simp at hy
      subst hy
      exact hp
theorem sum_le {α : Type} {H : Type} {bk : α → Nat} {D : Nat → DataW H} : ∀ {xs : List α} (k : Nat), (∀ i x, xs[i]? = some x → bk x ≤ Rows.uptoBulk (D (k + i))) → sum1 bk xs ≤ Rows.uptoBulkAll ((List.range xs.length).map fun i => D (k + i))
  | [], k, h => by simp [sum1]
  | x :: l, k, h => by
    have h0 := h 0 x rfl
    have h1 := sum_le (xs := l) (D := D) (bk := bk) (k + 1) (fun i y hy => by have := h (i + 1) y (by simpa using hy); rwa [show k + (i + 1) = k + 1 + i by omega] at this)
    rw [List.length_cons, List.range_succ_eq_map, List.map_cons, List.map_map, Rows.uptoBulkAll, sum1]
    have e : (List.range l.length).map ((fun i => D (k + i)) ∘ Nat.succ) = (List.range l.length).map fun i => D (k + 1 + i) := List.map_congr_left fun i _ => by simp only [Function.comp_apply, Nat.succ_eq_add_one]; congr 1; omega
    rw [e]
    simp only [Nat.add_zero] at h0 ⊢
    omega

theorem opens_slice {α : Type} {P : Program} {t e : TypeId} {K : Kd α} {wf : α → Prop} {bk : α → Nat} (ht : P.underlying t = some (.slice e)) (hc : P.cellsOf e = K.sz) {B : Nat} (hB : P.bytesOf e = B) (h : Opens P e K wf bk) (q : Nat) :
    Opens P t (Kd.slice q K) (fun xs => xs.length * B ≤ 140737488351232 ∧ ∀ x ∈ xs, wf x) (fun xs => sum1 bk xs + 1) := by
  intro H enc w fuel cs d ps hd hw
  rcases Go.Deep.open_slice ht hd with ⟨rfl, hx⟩ | ⟨a, len, cap, m, n, D, Pl, rfl, hb, hl, hm, hmm, hx, hel⟩
  · obtain ⟨rfl, _⟩ := Prod.mk.inj hx
    exact ⟨[], ⟨none, 0, rfl, Nat.le_refl _, rfl, by simp, fun h0 => by simp at h0⟩, ⟨by simp, fun x hx => by simp at hx⟩, by simp [Rows.uptoBulk, sum1]⟩
  · simp only [if_true] at hmm
    subst hmm
    obtain ⟨rfl, _⟩ := Prod.mk.inj hx
    have hw1 : ∀ x ∈ DataW.weights P t (DataW.slice ((List.range len).map D) ((List.range (m - len)).map fun j => D (len + j))), x ≤ reachBytes := fun x hx => by
      have := List.all_eq_true.1 hw x hx
      simpa using this
    have hb0 : (len + (m - len)) * B ≤ reachBytes := by
      have := hw1 _ (by rw [DataW.weights, ht]; exact List.mem_cons_self)
      simpa [hB] using this
    obtain ⟨xs, hxl, hxs⟩ := list_of (n := len) (p := fun i x => (∃ c, c.length = K.sz ∧ K.K w x c ∧ ∀ j u, c[j]? = some u → w.cell? (a.add (i * K.sz + j)) = some u) ∧ wf x ∧ bk x ≤ Rows.uptoBulk (D i)) (fun i hi => by
      obtain ⟨c, h1, h2⟩ := hel i (by omega)
      obtain ⟨_, h3, h4⟩ := World.cells?_some h1
      have hwi : (DataW.weights P e (D i)).all (· ≤ reachBytes) = true := by
        rw [List.all_eq_true]
        intro x hx
        have := hw1 x (by rw [DataW.weights, ht]; refine List.mem_cons_of_mem _ (List.mem_append_left _ (weights_in (d := D i) ?_ x hx)); exact List.mem_map.2 ⟨i, List.mem_range.2 hi, rfl⟩)
        simpa using this
      obtain ⟨x, k1, k2, k3⟩ := h enc w n c (D i) (Pl i) h2 hwi
      refine ⟨x, ⟨c, by rw [h3, hc], k1, fun j u hj => ?_⟩, k2, k3⟩
      have hjl : j < P.cellsOf e := by have := (List.getElem?_eq_some_iff.1 hj).1; omega
      have := h4 j hjl
      rw [Go.Deep.add_add, hc] at this
      rw [this, hj])
    have hml : m ≤ 9223372036854775807 := by simpa [maxLen] using hm
    refine ⟨xs, ⟨some a, m, by rw [hxl], by omega, rfl, by omega, fun _ => ⟨a, rfl, fun j x hj => (hxs j x hj).1⟩⟩, ⟨?_, fun x hx => ?_⟩, ?_⟩
    · rw [hxl]
      have h1 : len * B ≤ (len + (m - len)) * B := Nat.mul_le_mul_right _ (by omega)
      have h2 : reachBytes = 140737488351232 := rfl
      omega
    · obtain ⟨j, hj, rfl⟩ := List.getElem_of_mem hx
      exact (hxs j _ (List.getElem?_eq_getElem hj)).2.1
    · have := sum_le (D := D) (bk := bk) (xs := xs) 0 (fun i x hx => by rw [Nat.zero_add]; exact (hxs i x hx).2.2)
      rw [hxl] at this
      simp only [Nat.zero_add] at this
      simp only [Rows.uptoBulk]
      have e : (List.map (fun i => D i) (List.range len)) = List.map D (List.range len) := rfl
      rw [e] at this
      omega

/-- The fields of a struct from offset o on. -/
def OpensF {α : Type} (P : Program) (o : Nat) (fs : List Field) (K : Kd α) (wf : α → Prop) (bk : α → Nat) : Prop :=
  ∀ {H : Type} (enc : TypeId × Value → H) (w : World) (n : Nat) (cs : List Value) (ys : List (DataW H × List MemPlace)), ys.length = fs.length →
    (∀ (i : Nat) (f : Field), fs[i]? = some f → DataW.trod enc P w 0 (fun _ => true) true n f.type ((cs.drop f.offset).take (P.cellsOf f.type)) = ys[i]?) →
    (DataW.weightsEach P (fs.map (·.type)) (ys.map (·.1))).all (· ≤ reachBytes) = true → ∃ x, K.K w x ((cs.drop o).take K.sz) ∧ wf x ∧ bk x ≤ Rows.uptoBulkAll (ys.map (·.1))
theorem opensF_one {α : Type} {P : Program} {o : Nat} {f : Field} {K : Kd α} {wf : α → Prop} {bk : α → Nat} (ho : f.offset = o) (hc : P.cellsOf f.type = K.sz) (h : Opens P f.type K wf bk) : OpensF P o [f] K wf bk := by
  intro H enc w n cs ys hl hy hw
  match ys, hl with
  | [y], _ =>
    have h0 := hy 0 f rfl
    rw [ho, hc] at h0
    simp only [List.map_cons, List.map_nil, DataW.weightsEach, List.append_nil] at hw
    obtain ⟨x, k1, k2, k3⟩ := h enc w n _ y.1 y.2 h0 hw
    exact ⟨x, k1, k2, by simpa [Rows.uptoBulkAll] using k3⟩
theorem opensF_cons {α β : Type} {P : Program} {o : Nat} {f : Field} {fs : List Field} {K : Kd α} {K' : Kd β} {wf : α → Prop} {bk : α → Nat} {wf' : β → Prop} {bk' : β → Nat} (ho : f.offset = o) (hc : P.cellsOf f.type = K.sz) (h : Opens P f.type K wf bk)
    (h' : OpensF P (o + K.sz) fs K' wf' bk') : OpensF P o (f :: fs) (Kd.pair K K') (fun x => wf x.1 ∧ wf' x.2) (fun x => bk x.1 + bk' x.2) := by
  intro H enc w n cs ys hl hy hw
  match ys, hl with
  | y :: ys, hl =>
    have h0 := hy 0 f rfl
    rw [ho, hc] at h0
    simp only [List.map_cons, DataW.weightsEach, List.all_append, Bool.and_eq_true] at hw
    obtain ⟨x, k1, k2, k3⟩ := h enc w n _ y.1 y.2 h0 hw.1
    obtain ⟨x', j1, j2, j3⟩ := h' enc w n cs ys (by simpa using hl) (fun i g hg => by have := hy (i + 1) g (by simpa using hg); simpa using this) hw.2
    refine ⟨(x, x'), ⟨_, _, ?_, k1, j1⟩, ⟨k2, j2⟩, ?_⟩
    · show List.take (K.sz + K'.sz) (List.drop o cs) = _
      rw [List.take_add, List.drop_drop]
    · simp only [List.map_cons, Rows.uptoBulkAll]; omega
theorem opens_struct {α : Type} {P : Program} {t : TypeId} {fs : Array Field} {l : List Field} {K : Kd α} {wf : α → Prop} {bk : α → Nat} (ht : P.underlying t = some (.struct fs)) (hl : fs.toList = l) (hc : P.cellsOf t = K.sz) (h : OpensF P 0 l K wf bk) : Opens P t K wf (fun x => bk x + 1) := by
  subst hl
  intro H enc w fuel cs d ps hd hw
  obtain ⟨xs, n, rfl, hx, hcl, hxl, hf⟩ := DataW.trod_struct ht hd
  obtain ⟨rfl, _⟩ := Prod.mk.inj hx
  rw [DataW.weights, ht] at hw
  obtain ⟨x, k1, k2, k3⟩ := h enc w n cs xs (by simpa using hxl) (fun i f hi => hf i f (by simpa using hi)) hw
  refine ⟨x, ?_, k2, by simp only [Rows.uptoBulk]; omega⟩
  rw [List.drop_zero, ← hc, ← hcl, List.take_length] at k1
  exact k1
theorem opens_iso {α β : Type} {P : Program} {t : TypeId} {K : Kd α} {wf : α → Prop} {bk : α → Nat} (f : β → α) (g : α → β) (hfg : ∀ a, f (g a) = a) (h : Opens P t K wf bk) : Opens P t (Kd.iso K f) (fun x => wf (f x)) (fun x => bk (f x)) := by
  intro H enc w fuel cs d ps hd hw
  obtain ⟨x, k1, k2, k3⟩ := h enc w fuel cs d ps hd hw
  exact ⟨g x, by show K.K w (f (g x)) cs; rw [hfg]; exact k1, by show wf (f (g x)); rw [hfg]; exact k2, by show bk (f (g x)) ≤ _; rw [hfg]; exact k3⟩
/-- .. as an argument. -/
theorem Opens.arg {α : Type} {P : Program} {t : TypeId} {K : Kd α} {wf : α → Prop} {bk : α → Nat} (h : Opens P t K wf bk) {H : Type} {enc : TypeId × Value → H} {w : World} {v : Value} {d : DataW H} {ps : List MemPlace} {ts : List TypeId} {ds : List (DataW H)} {j : Nat}
    (hsz : (DataW.weightsEach P ts ds).all (· ≤ reachBytes) = true) (ht : ts[j]? = some t) (hd : ds[j]? = some d) (hv : DataW.Trod enc P w 0 (fun _ => true) true t v d ps) : ∃ x, K.K w x v.cells.toList ∧ wf x ∧ bk x ≤ Rows.uptoBulk d := by
  obtain ⟨fuel, hf⟩ := hv
  refine h enc w fuel _ d ps hf ?_
  rw [List.all_eq_true]
  intro n hn
  exact List.all_eq_true.1 hsz n (DataW.weights_mem_each ht hd n hn)
theorem Opens.slice_arg {α : Type} {P : Program} {t q : TypeId} {K : Kd α} {wf : List α → Prop} {bk : List α → Nat} (h : Opens P t (Kd.slice q K) wf bk) {H : Type} {enc : TypeId × Value → H} {w : World} {A : Option Addr} {l c : Nat} {d : DataW H} {ps : List MemPlace} {ts : List TypeId} {ds : List (DataW H)} {j : Nat}
    (hsz : (DataW.weightsEach P ts ds).all (· ≤ reachBytes) = true) (ht : ts[j]? = some t) (hd : ds[j]? = some d) (hv : DataW.Trod enc P w 0 (fun _ => true) true t (.slice A l c) d ps) : ∃ xs, xs.length = l ∧ l ≤ c ∧ K.C w A xs.length xs ∧ wf xs ∧ bk xs ≤ Rows.uptoBulk d := by
  obtain ⟨x, k1, k2, k3⟩ := h.arg hsz ht hd hv
  obtain ⟨A', c', e, hc, hr⟩ := k1
  simp [Value.cells] at e
  obtain ⟨rfl, rfl, rfl⟩ := e
  exact ⟨x, rfl, hc, hr, k2, k3⟩

end Go.Proofs.Ytmbnjgnmblgjoaa.Open
