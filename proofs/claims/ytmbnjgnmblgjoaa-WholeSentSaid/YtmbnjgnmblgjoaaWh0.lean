-- Laid together by a program of this session (wip/tools/shake.py). Not trusted: Lean checks it.
import Derived.Test.YtmbnjgnmblgjoaaRows
import Derived.Below
import Derived.Deep.Draws
import Derived.Deep.AppendLies
import Derived.Maps.AppendAt
import Derived.OwnWalk
import Derived.Laws.BytesArg
import Derived.Laws.MakeOwn
import Derived.Laws.OwnMore
import Derived.Deep.OwnRows
import Derived.Tactics
import Derived.Lib.ConvBytes
import Derived.Laws.Slices
import Derived.WalkKit
import Derived.KernelRfl
import Derived.RowKit3
import Derived.Deep.LoopGhost
import Derived.Deep.QuietTactic
import Derived.BigQuiet
import Derived.WideLaws
import Derived.Deep.DeepCutAuto
import Derived.Deep.CutBlock
import Derived.Deep.RegionHeld3
import Derived.Laws.Rows
import Derived.Lib.AppendStr
import Derived.ArgAppend
import Derived.Laws.IdiomCopy
import Derived.RowKit
import Derived.Deep.Slices
import Derived.ChangeArms
import Derived.SizedLaws
import Derived.WideShapes
import Derived.Deep.DeepMust
import Derived.RangeFuncNested
import Derived.RangeFuncLeaves
import Derived.RangeFuncBox
import Derived.RangeFuncCalls
import Derived.TacticsInMore
import Derived.LoopNIn
import Derived.LoopIn
import Derived.OwnWalkIn
import Derived.Shelf.Abstract
import Derived.Test.YtmbnjgnmblgjoaaProg
import Derived.Outline
import Derived.Lib.Hide
import Derived.OneCell
import Derived.OrdersHeld
import Derived.Laws.BitsLemmas
import Derived.Laws.Bits64
import Derived.Laws.BitsAllLaws
import Derived.RegionTactic
import Derived.RegionCalls
import Derived.Deep.RegionWith
import Derived.StillTailTactics
import Derived.Lib.Bytes
import Derived.Laws.CopyOwn
import Derived.Laws.StructEq
import Derived.WalkLawsBesides
import Derived.Defers
import Derived.Recover
import Derived.ProofKit
import Derived.OpenShut
import Derived.ShutString
import Derived.ChangeOld

-- WWords
section
-- PRINTED BY print.sh 35421559b90ae4d0a3588c463048766b98c2df88dd9212a6774a882060cdf62d: not written by this session
-- PRINTED WORDS (module Derived/Print/Words.lean): go-wishes' parts 1 to 38 and go-gate-2's additions: AI agents of Go's test side, Mon Nov 16 2026; no person has read them. Plain theorems and definitions: no macro, no elab, no axiom.



























set_option linter.unusedVariables false
set_option linter.unusedSimpArgs false
namespace Go.Proofs.YtmbnjgnmblgjoaaW.PrintWords
open Go.RowKit

/-- A fact that the walk's simp doesn't look into. -/
structure Aside0 (p : Prop) : Prop where mk :: (out : p)
/-- The world is the old one, some orders having been drawn. -/
structure Drawn0 (w w' : World) : Prop where mk :: (out : ∃ n, w' = w.drewN n)
theorem Drawn0.refl (w : World) : Drawn0 w w := ⟨⟨0, rfl⟩⟩
theorem Drawn0.step {w w' : World} (h : Drawn0 w w') (n : Nat) : Drawn0 w (w'.drewN n) := by
  obtain ⟨m, rfl⟩ := h
  exact ⟨⟨m + n, World.drewN_drewN ..⟩⟩
theorem Drawn0.grown {w w' : World} (h : Drawn0 w w') : Grown w w' := by
  obtain ⟨n, rfl⟩ := h
  induction n with
  | zero => exact Grown.refl _
  | succ n ih => rw [← World.drew_drewN]; exact Grown.drew ih
theorem Drawn0.below {w w' : World} (h : Drawn0 w w') : Below w.heap.size w w' := by
  obtain ⟨n, rfl⟩ := h
  induction n with
  | zero => exact Below.refl _ _
  | succ n ih => rw [← World.drew_drewN]; exact ih.drew


/-! ### 1. Values and lists -/
def rd (xs : List Int) (i : Int) : Int := xs.getD i.toNat 0
def bt (s : ByteArray) (i : Int) : Int := if h : i.toNat < s.size then ((s[i.toNat]'h).toNat : Int) else 0
def nums (k : IntKind) (xs : List Int) : List Value := xs.map fun x => .int k x
def bools (xs : List Bool) : List Value := xs.map fun x => .bool x
def pw_strs (xs : List ByteArray) : List Value := xs.map fun x => .string x
/-! ### 2. The world -/
theorem below_alloc {w W : World} (h : Below w.heap.size w W) (o : Obj) : Below w.heap.size w (W.alloc o) := h.alloc h.size o
theorem below_drew {B : Nat} {w W : World} (h : Below B w W) : Below B w W.drew := ⟨h.os, h.tape, h.output, h.size, h.block⟩
theorem pw_below_drewN {B : Nat} {w W : World} (h : Below B w W) (n : Nat) : Below B w (W.drewN n) := ⟨h.os, h.tape, h.output, h.size, h.block⟩
theorem below_then {B : Nat} {w w1 w2 : World} (h : Below B w w1) (hB : B ≤ w1.heap.size) (k : Below w1.heap.size w1 w2) : Below B w w2 :=
  h.trans ⟨k.os, k.tape, k.output, k.size, fun i hi => k.block i (Nat.lt_of_lt_of_le hi hB)⟩
theorem grown_of_below {w w1 : World} (h : Below w.heap.size w w1) (row : Option Nat) : w.grownBy w1 row := ⟨h.os, h.tape, h.output, h.size, fun i hi _ => h.block i hi⟩
theorem pw_cell_below {w w1 : World} (h : Below w.heap.size w w1) {a : Addr} {v : Value} (hc : w.cell? a = some v) : w1.cell? a = some v := (h.cell (World.block_lt_of_cell? w a hc)).trans hc

/-! ### 3. A slice of whole numbers that is read; nil, empty and other slices alike -/
def ReadsInt (w : World) (k : IntKind) (A : Option Addr) (n : Nat) (xs : List Int) : Prop :=
  xs.length = n ∧ n ≤ 9223372036854775807 ∧ (0 < n → ∃ ad, A = some ad ∧ ∀ j, j < n → w.cell? (ad.add j) = some (.int k (xs.getD j 0)))
theorem ReadsInt.at_ {w : World} {k : IntKind} {A : Option Addr} {n : Nat} {xs : List Int} (h : ReadsInt w k A n xs) (i : Int) (h0 : 0 ≤ i) (h1 : i < n) : ∃ ad, A = some ad ∧ w.cell? (ad.add i.toNat) = some (.int k (rd xs i)) := by
  obtain ⟨ad, e, hc⟩ := h.2.2 (by omega)
  exact ⟨ad, e, hc _ (by omega)⟩
theorem ReadsInt.below {w w1 : World} {k : IntKind} {A : Option Addr} {n : Nat} {xs : List Int} (h : ReadsInt w k A n xs) (hb : Below w.heap.size w w1) : ReadsInt w1 k A n xs :=
  ⟨h.1, h.2.1, fun hn => by
    obtain ⟨ad, e, hc⟩ := h.2.2 hn
    exact ⟨ad, e, fun j hj => pw_cell_below hb (hc j hj)⟩⟩

/-! ### 4. A row of the call's own -/
theorem own_nil (W : World) (base : Nat) (e : TypeId) (size : Nat) : W.ownsRow base e size (.slice none 0 0) 0 [] := ⟨by simp, .inl ⟨rfl, rfl⟩⟩
theorem own_base {w : World} {base : Nat} {e : TypeId} {size n : Nat} {v : Value} {xs : List Value} (h : w.ownsRow base e size v n xs) (k : Nat) (hk : v.ownBlock = some k) : base ≤ k := by
  rcases h.2 with ⟨rfl, _⟩ | ⟨g, cap, cur, rfl, hb, _⟩
  · simp [Value.ownBlock] at hk
  · have : g = k := by simpa [Value.ownBlock] using hk
    omega
theorem own_lt {w : World} {base : Nat} {e : TypeId} {size n : Nat} {v : Value} {xs : List Value} (h : w.ownsRow base e size v n xs) (k : Nat) (hk : v.ownBlock = some k) : k < w.heap.size := by
  rcases h.2 with ⟨rfl, _⟩ | ⟨g, cap, cur, rfl, hb, hh, _⟩
  · simp [Value.ownBlock] at hk
  · have : g = k := by simpa [Value.ownBlock] using hk
    subst this
    exact (Array.getElem?_eq_some_iff.1 hh).1
theorem pw_own_below {w w1 : World} {base : Nat} {e : TypeId} {size n : Nat} {v : Value} {xs : List Value} (h : w.ownsRow base e size v n xs) (hb : Below w.heap.size w w1) : w1.ownsRow base e size v n xs :=
  h.kept (grown_of_below hb none) (by cases v.ownBlock <;> simp)
/-- What is written is another row: this one lives on. -/
theorem own_other {w w1 : World} {base : Nat} {e : TypeId} {size n : Nat} {v : Value} {xs : List Value} (h : w.ownsRow base e size v n xs) {row : Option Nat} (hg : w.grownBy w1 row) (hne : v.ownBlock = none ∨ v.ownBlock ≠ row) : w1.ownsRow base e size v n xs := h.kept hg hne
/-- The shape of whatever is owned. -/
theorem own_slice {w : World} {base n : Nat} {e : TypeId} {size : Nat} {v : Value} {xs : List Value} (h : w.ownsRow base e size v n xs) : ∃ A c, v = .slice A n c := by
  rcases h.2 with ⟨rfl, rfl⟩ | ⟨g, cap, cur, rfl, _⟩
  · exact ⟨none, 0, rfl⟩
  · exact ⟨_, cap, rfl⟩
/-! ### 5. append(v, x): behind 'at_builtin'; the goal's world is 'W.alloc' of the variadic's box -/
section
variable {P : Program} {ops : Array Oper} {rest : List Oper} {o : Oper} {a : Act} {Q : Exit → Act → World → Prop}

end

/-! ### 6. make([]T, n), n an Int; a literal -/
section
variable {P : Program}
end
/-! ### 7. v[i] read and v[i] = x, v a row of the call's own: 'obtain ⟨g, cap, rfl, hgb, hgl⟩ := HO.out.form (by omega)' first -/
/-! ### 8. append(v, ys...): ys a slice that is read, nil let in; behind 'at_builtin' -/
section
variable {P : Program} {ops : Array Oper} {rest : List Oper} {o : Oper} {a : Act} {Q : Exit → Act → World → Prop}
end

/-! ### 9. []byte(s): a slice that is read (its row bears a conversion's mark: no row of one's own); cuts of a slice that is read -/
def bytesOf (s : ByteArray) : List Int := s.data.toList.map fun b => (b.toNat : Int)
/-- 'xs[:k]' and 'xs[k:]' of a slice that is read; the address of the second as_ the walk has it. -/
theorem ReadsInt.take_ {w : World} {k : IntKind} {A : Option Addr} {n : Nat} {xs : List Int} (h : ReadsInt w k A n xs) (i : Nat) (hi : i ≤ n) : ReadsInt w k A i (xs.take i) := by
  refine ⟨by rw [List.length_take, h.1]; omega, by have := h.2.1; omega, fun hp => ?_⟩
  obtain ⟨ad, e, hc⟩ := h.2.2 (by omega)
  refine ⟨ad, e, fun j hj => ?_⟩
  rw [hc j (by omega)]
  simp [List.getD_eq_getElem?_getD, hj]
theorem ReadsInt.drop_ {w : World} {k : IntKind} {A : Option Addr} {n c : Nat} {xs : List Int} (h : ReadsInt w k A n xs) (i : Nat) (hi : i ≤ n) (hc : n ≤ c) : ReadsInt w k (if c = i then A else A.map (·.add i)) (n - i) (xs.drop i) := by
  refine ⟨by rw [List.length_drop, h.1], by have := h.2.1; omega, fun hp => ?_⟩
  obtain ⟨ad, rfl, hcell⟩ := h.2.2 (by omega)
  rw [if_neg (by omega)]
  refine ⟨ad.add i, rfl, fun j hj => ?_⟩
  have ha : (ad.add i).add j = ad.add (i + j) := by
    unfold Addr.add
    by_cases h1 : i = 0 <;> by_cases h2 : j = 0 <;> simp [h1, h2, Nat.add_assoc]
  rw [ha, hcell (i + j) (by omega)]
  simp [List.getD_eq_getElem?_getD, List.getElem?_drop]
/-! ### 10. Rounds: more rounds give the same answer; what ends gives a number of rounds -/
/-- Where the first answers, the second answers the same. -/
def LeO {α : Type} (a b : Option α) : Prop := ∀ r, a = some r → b = some r
theorem LeO.refl {α : Type} (a : Option α) : LeO a a := fun _ h => h
theorem LeO.none {α : Type} (b : Option α) : LeO Option.none b := fun _ h => by cases h
theorem LeO.trans {α : Type} {a b c : Option α} (h : LeO a b) (k : LeO b c) : LeO a c := fun r hr => k r (h r hr)
theorem LeO.ite {α : Type} {c : Prop} [Decidable c] {a a' b b' : Option α} (h : LeO a a') (k : LeO b b') : LeO (if c then a else b) (if c then a' else b') := by
  split
  · exact h
  · exact k
theorem LeO.bind {α β : Type} {a a' : Option α} {f f' : α → Option β} (h : LeO a a') (k : ∀ x, LeO (f x) (f' x)) : LeO (a.bind f) (a'.bind f') := by
  intro r hr
  obtain ⟨x, hx, hf⟩ := Option.bind_eq_some_iff.1 hr
  exact Option.bind_eq_some_iff.2 ⟨x, h x hx, k x r hf⟩
theorem LeO.map {α β : Type} {a a' : Option α} (f : α → β) (h : LeO a a') : LeO (a.map f) (a'.map f) := by
  intro r hr
  obtain ⟨x, hx, hf⟩ := Option.map_eq_some_iff.1 hr
  exact Option.map_eq_some_iff.2 ⟨x, h x hx, hf⟩
theorem more_rounds {α : Type} {g : Nat → Option α} (h : ∀ k, LeO (g k) (g (k + 1))) (k : Nat) : ∀ j, LeO (g k) (g (k + j))
  | 0 => LeO.refl _
  | j + 1 => (more_rounds h k j).trans (h (k + j))
theorem at_rounds {α : Type} {g : Nat → Option α} (h : ∀ k, LeO (g k) (g (k + 1))) {k k' : Nat} (hk : k ≤ k') {r : α} (hr : g k = some r) : g k' = some r := by
  have := more_rounds h k (k' - k) r hr
  rwa [Nat.add_sub_cancel' hk] at this
/-! ### 11. Rows of elements of several cells (structs): read, made. R: what an element's cells say ('RepItem w': printed for each type) -/
def Reps {α : Type} (R : α → List Value → Prop) (size : Nat) (ps : List α) (cs : List Value) : Prop :=
  cs.length = ps.length * size ∧ ∀ j p, ps[j]? = some p → R p ((cs.drop (j * size)).take size)
theorem Reps.none {α : Type} (R : α → List Value → Prop) (size : Nat) : Reps R size [] [] := ⟨by simp, fun j p h => by simp at h⟩
theorem Reps.snoc {α : Type} {R : α → List Value → Prop} {size : Nat} {ps : List α} {cs c : List Value} {p : α} (h : Reps R size ps cs) (hp : R p c) (hc : c.length = size) : Reps R size (ps ++ [p]) (cs ++ c) := by
  refine ⟨by rw [List.length_append, h.1, hc, List.length_append, List.length_singleton, Nat.add_mul, Nat.one_mul], fun j q hq => ?_⟩
  rcases Nat.lt_or_ge j ps.length with hj | hj
  · rw [List.getElem?_append_left hj] at hq
    have h1 : j * size + size ≤ cs.length := by rw [h.1, ← Nat.succ_mul]; exact Nat.mul_le_mul_right _ hj
    have h2 := h.2 j q hq
    rw [List.drop_append_of_le_length (by omega), List.take_append_of_le_length (by rw [List.length_drop]; omega)]
    exact h2
  · have hj' : j = ps.length := by
      have := (List.getElem?_eq_some_iff.1 hq).1
      rw [List.length_append, List.length_singleton] at this
      omega
    subst hj'
    have hq' : p = q := by simpa using hq
    subst hq'
    rw [← h.1, List.drop_left, ← hc, List.take_length]
    exact hp
theorem Reps.imp_ {α : Type} {R R' : α → List Value → Prop} {size : Nat} {ps : List α} {cs : List Value} (h : Reps R size ps cs) (hR : ∀ p c, R p c → R' p c) : Reps R' size ps cs := ⟨h.1, fun j p hj => hR _ _ (h.2 j p hj)⟩

def ReadsRow {α : Type} (R : α → List Value → Prop) (size : Nat) (w : World) (A : Option Addr) (n : Nat) (ps : List α) : Prop :=
  ps.length = n ∧ n ≤ 9223372036854775807 ∧ (0 < n → ∃ ad, A = some ad ∧ ∀ j p, ps[j]? = some p → ∃ c, c.length = size ∧ R p c ∧ ∀ i u, c[i]? = some u → w.cell? (ad.add (j * size + i)) = some u)
theorem ReadsRow.get_ {α : Type} {R : α → List Value → Prop} {size : Nat} {w : World} {A : Option Addr} {n : Nat} {ps : List α} (h : ReadsRow R size w A n ps) (d : α) (i : Int) (h0 : 0 ≤ i) (h1 : i < n) :
    ∃ ad c, A = some ad ∧ c.length = size ∧ R (ps.getD i.toNat d) c ∧ ∀ j u, c[j]? = some u → w.cell? (ad.add (i.toNat * size + j)) = some u := by
  obtain ⟨ad, e, hc⟩ := h.2.2 (by omega)
  have hl : i.toNat < ps.length := by have := h.1; omega
  obtain ⟨c, hs, hr, hcell⟩ := hc i.toNat _ (List.getElem?_eq_getElem hl)
  refine ⟨ad, c, e, hs, ?_, hcell⟩
  rw [List.getD_eq_getElem?_getD, List.getElem?_eq_getElem hl]
  exact hr
theorem ReadsRow.imp_ {α : Type} {R R' : α → List Value → Prop} {size : Nat} {w w1 : World} {A : Option Addr} {n : Nat} {ps : List α} (h : ReadsRow R size w A n ps) (hb : Below w.heap.size w w1) (hR : ∀ p c, R p c → R' p c) : ReadsRow R' size w1 A n ps :=
  ⟨h.1, h.2.1, fun hn => by
    obtain ⟨ad, e, hc⟩ := h.2.2 hn
    refine ⟨ad, e, fun j p hj => ?_⟩
    obtain ⟨c, hs, hr, hcell⟩ := hc j p hj
    exact ⟨c, hs, hR _ _ hr, fun i u hu => pw_cell_below hb (hcell i u hu)⟩⟩
theorem own_reads_row {α : Type} {R : α → List Value → Prop} {w : World} {base n size : Nat} {e : TypeId} {v : Value} {ps : List α} {cs : List Value} (h : w.ownsRow base e size v n cs) (hR : Reps R size ps cs) (hn : ps.length = n) :
    ∃ A c, v = .slice A n c ∧ ReadsRow R size w A n ps := by
  rcases Nat.eq_zero_or_pos n with h0 | h0
  · rcases h.2 with ⟨rfl, rfl⟩ | ⟨g, cap, cur, rfl, _⟩
    · exact ⟨none, 0, rfl, hn, by omega, fun hp => absurd hp (by omega)⟩
    · exact ⟨_, cap, rfl, hn, by omega, fun hp => absurd hp (by omega)⟩
  · obtain ⟨g, cap, rfl, _, _⟩ := h.form h0
    have hm : n ≤ 9223372036854775807 := by
      rcases h.2 with ⟨_, h1⟩ | ⟨g', cap', cur, he, _, _, h1, h2, _⟩
      · omega
      · simp only [maxLen] at h2
        omega
    refine ⟨_, cap, rfl, hn, hm, fun _ => ⟨_, rfl, fun j p hj => ⟨(cs.drop (j * size)).take size, ?_, hR.2 j p hj, fun i u hu => ?_⟩⟩⟩
    · have hjl := (List.getElem?_eq_some_iff.1 hj).1
      have h1 : j * size + size ≤ cs.length := by rw [hR.1, ← Nat.succ_mul]; exact Nat.mul_le_mul_right _ hjl
      rw [List.length_take, List.length_drop]
      omega
    · refine h.cells (g := g) rfl _ u ?_
      rw [List.getElem?_take] at hu
      split at hu
      · rw [List.getElem?_drop] at hu
        exact hu
      · cases hu
/-- A field's address as_ the walk spells it. -/
theorem add_field (ad : Addr) (m j : Nat) (hj : 0 < j) : ad.add (m + j) = ⟨(ad.add m).block, (ad.add m).off + j, none⟩ := by
  unfold Addr.add
  by_cases hm : m = 0
  · subst hm
    simp [Nat.ne_of_gt hj]
  · simp [hm, Nat.add_assoc]

section
variable {P : Program} {ops : Array Oper} {rest : List Oper} {o : Oper} {a : Act} {Q : Exit → Act → World → Prop}
/-- append(v, x), x of several cells; behind 'at_builtin'; the goal's world is 'W.alloc' of the variadic's box. -/
theorem print_append_cells {w0 W : World} (base : Nat) (hgd : o.guard = none) (s x : Operand) (t e : TypeId) (z : Value) (size bytes : Nat)
    (ho : o.op = .call { callee := .builtin .append, args := #[s, x], argTypes := #[t, t] })
    (ht : P.underlying t = some (.slice e)) (hinfo : (P.info? e).map (fun i => (i.zero, i.size, i.bytes)) = some (some z, size, bytes)) (hz : z.cells.size = size) (hs0 : 0 < size) (hb0 : 0 < bytes)
    (v : Value) (n : Nat) (xs ys : List Value) (hs : a.eval s = v) (hx : a.eval x = .slice (some ⟨W.heap.size, 0, none⟩) 1 1) (hys : ys.length = size) (h1 : ∀ u ∈ ys, u.oneCell' = true)
    (HO : W.ownsRow base e size v n xs) (HB : Below base w0 W) (hbase : base ≤ W.heap.size) (hl : (n + 1) * bytes ≤ 140737488355328)
    (h : ∀ v1 w1, w1.ownsRow base e size v1 (n + 1) (xs ++ ys) → Below base w0 w1 → W.grownBy w1 v.ownBlock → (v1.ownBlock = v.ownBlock ∨ ∃ b, v1.ownBlock = some b ∧ W.heap.size ≤ b) → wpList P ops Q rest (a.put o.dst v1) w1) :
    wpList P ops Q (o :: rest) a (W.alloc (.cells ys.toArray e)) := by
  obtain ⟨i0, hi, hzz⟩ := Option.map_eq_some_iff.1 hinfo
  simp only [Prod.mk.injEq] at hzz
  obtain ⟨hz0, hz1, hz2⟩ := hzz
  have hlen : n + 1 ≤ 140737488355328 := Nat.le_trans (Nat.le_mul_of_pos_right _ hb0) hl
  refine wpList_append_own_at (W.alloc (.cells ys.toArray e)) hgd s x t ho base e i0 z size bytes ht hi hz0 hz1 hz2 hz hs0 v n xs hs (HO.alloc _) ⟨W.heap.size, 0, none⟩ 1 1 ys hx (by rw [hys]; simp)
    (by simpa using World.news_of_block (cs := ys.toArray) (t := e) (fr := (0, 0)) (heap_alloc_new W (.cells ys.toArray e))) h1 (by simp only [maxLen]; omega) hl (by simp; omega) ?_
  intro v1 w1 hown hg _ hat
  refine h v1 w1 hown ((HB.alloc hbase _).grown hg (by simp; omega) (own_base HO)) (World.grownBy.trans (World.grownBy_alloc W _ _) hg) ?_
  rcases hat with hat | hat
  · exact .inl hat
  · exact .inr ⟨_, hat, by simp⟩
end

/-! ### 12. A block of one's own that is a state: its cells, what a store leaves -/
theorem blk_set {w : World} {g : Nat} {t : TypeId} {cs : Array Value} (h : w.heap[g]? = some (.cells cs t (0, 0))) (i : Nat) (u : Value) : (w.setCell ⟨g, i, none⟩ u).heap[g]? = some (.cells (cs.setIfInBounds i u) t (0, 0)) := by
  simp [World.setCell, Array.getElem?_modify, h]
theorem blk_far {w : World} {g : Nat} {t : TypeId} {cs : Array Value} (h : w.heap[g]? = some (.cells cs t (0, 0))) {p : Addr} (hp : g ≠ p.block) (u : Value) : (w.setCell p u).heap[g]? = some (.cells cs t (0, 0)) := (Below.heap_setCell w p u g hp).trans h
theorem blk_lt {w : World} {g : Nat} {o : Obj} (h : w.heap[g]? = some o) : g < w.heap.size := (Array.getElem?_eq_some_iff.1 h).1
theorem blk_cell {w : World} {g : Nat} {t : TypeId} {cs : Array Value} (h : w.heap[g]? = some (.cells cs t (0, 0))) (i : Nat) : w.cell? ⟨g, i, none⟩ = cs[i]? := cell_of_row w g i cs t (0, 0) h
theorem blk_frozen {w : World} {g : Nat} {t : TypeId} {cs : Array Value} (h : w.heap[g]? = some (.cells cs t (0, 0))) (i : Nat) : w.frozen? ⟨g, i, none⟩ = false := by simp [World.frozen?, h]
/-! ### 13. Two states at once: what a call on the state at block g (its row before: 'row') has turned -/
def KeepBut (w w' : World) (g : Nat) (row : Option Nat) : Prop := w.heap.size ≤ w'.heap.size ∧ ∀ i, i < w.heap.size → i ≠ g → some i ≠ row → w'.heap[i]? = w.heap[i]?
theorem KeepBut.refl (w : World) (g : Nat) (row : Option Nat) : KeepBut w w g row := ⟨Nat.le_refl _, fun _ _ _ _ => rfl⟩
theorem KeepBut.of_below {w w1 : World} (h : Below w.heap.size w w1) (g : Nat) (row : Option Nat) : KeepBut w w1 g row := ⟨h.size, fun i hi _ _ => h.block i hi⟩
theorem KeepBut.trans {w w1 w2 : World} {g : Nat} {row row1 : Option Nat} (h : KeepBut w w1 g row) (k : KeepBut w1 w2 g row1) (hr : row1 = row ∨ ∃ b, row1 = some b ∧ w.heap.size ≤ b) : KeepBut w w2 g row :=
  ⟨Nat.le_trans h.1 k.1, fun i hi hg hn => by
    refine (k.2 i (Nat.lt_of_lt_of_le hi h.1) hg ?_).trans (h.2 i hi hg hn)
    rcases hr with rfl | ⟨b, rfl, hb⟩
    · exact hn
    · intro e
      injection e with e
      omega⟩
/-- Another block, another row: they live on. -/
theorem KeepBut.blk {w w1 : World} {g g' : Nat} {row : Option Nat} {o : Obj} (h : KeepBut w w1 g row) (hb : w.heap[g']? = some o) (hg : g' ≠ g) (hr : some g' ≠ row) : w1.heap[g']? = some o := (h.2 g' (blk_lt hb) hg hr).trans hb
theorem KeepBut.own {w w1 : World} {g : Nat} {row : Option Nat} {base : Nat} {e : TypeId} {size n : Nat} {v : Value} {xs : List Value} (h : KeepBut w w1 g row) (ho : w.ownsRow base e size v n xs) (hg : v.ownBlock ≠ some g) (hr : v.ownBlock = none ∨ v.ownBlock ≠ row) : w1.ownsRow base e size v n xs := by
  obtain ⟨h1, h2⟩ := ho
  refine ⟨h1, ?_⟩
  rcases h2 with h2 | ⟨b, cap, cur, rfl, hb, hh, r⟩
  · exact .inl h2
  · refine .inr ⟨b, cap, cur, rfl, hb, h.blk hh ?_ ?_, r⟩
    · intro e
      exact hg (by rw [← e]; rfl)
    · rcases hr with hr | hr
      · simp [Value.ownBlock] at hr
      · exact hr
/-! ### 10b. From some number of rounds on -/
def Ev {α : Type} (g : Nat → Option α) (r : α) : Prop := ∃ K, ∀ k, K ≤ k → g k = some r
theorem Ev.of {α : Type} {g : Nat → Option α} {r : α} (hg : ∀ k, LeO (g k) (g (k + 1))) {k : Nat} (h : g k = some r) : Ev g r := ⟨k, fun _ hk => at_rounds hg hk h⟩
theorem Ev.bind {α β : Type} {g : Nat → Option α} {f : Nat → α → Option β} {a : α} {r : β} (h : Ev g a) (k : Ev (fun n => f n a) r) : Ev (fun n => (g n).bind (f n)) r := by
  obtain ⟨K, h⟩ := h
  obtain ⟨K', k⟩ := k
  refine ⟨max K K', fun n hn => ?_⟩
  have h1 := h n (by omega)
  have h2 := k n (by omega)
  simp only [h1, Option.bind_some]
  exact h2
/-- One round of a loop. -/
theorem Ev.step {α : Type} {g f : Nat → Option α} {r : α} (h : ∀ k, g (k + 1) = f k) (k : Ev f r) : Ev g r := by
  obtain ⟨K, k⟩ := k
  refine ⟨K + 1, fun n hn => ?_⟩
  obtain ⟨m, rfl⟩ : ∃ m, n = m + 1 := ⟨n - 1, by omega⟩
  rw [h]
  exact k m (by omega)
theorem Ev.congr {α : Type} {g f : Nat → Option α} {r : α} (h : ∀ k, g k = f k) (k : Ev f r) : Ev g r := by
  obtain ⟨K, k⟩ := k
  exact ⟨K, fun n hn => (h n).trans (k n hn)⟩
/-! ### 14. append as_ one step of a region that draws its order: for 'go_region_law' (and a region walked by hand) -/
section
variable {P : Program} {ops : Array Oper} {o : Oper} {a : Act} {Q : Exit → Act → World → Prop} {K : Act → World → Prop}
end
/-! ### 15. A row's base may be lowered -/
theorem own_weaken {w : World} {base base' : Nat} {e : TypeId} {size n : Nat} {v : Value} {xs : List Value} (h : w.ownsRow base e size v n xs) (hb : base' ≤ base) : w.ownsRow base' e size v n xs := by
  obtain ⟨h1, h2⟩ := h
  refine ⟨h1, ?_⟩
  rcases h2 with h2 | ⟨g, cap, cur, rfl, hg, r⟩
  · exact .inl h2
  · exact .inr ⟨g, cap, cur, rfl, Nat.le_trans hb hg, r⟩
/-! ### 16. Parts 3 to 9 for ANY element of one cell: 'enc' (Value.int k, Value.string, Value.bool), a default 'd' -/
section
variable {α : Type} {enc : α → Value} {d : α}
def encs (enc : α → Value) (xs : List α) : List Value := xs.map enc
def rdOf (d : α) (xs : List α) (i : Int) : α := xs.getD i.toNat d
theorem encs_length (xs : List α) : (encs enc xs).length = xs.length := by simp [encs]
def ReadsOf (enc : α → Value) (d : α) (w : World) (A : Option Addr) (n : Nat) (xs : List α) : Prop :=
  xs.length = n ∧ n ≤ 9223372036854775807 ∧ (0 < n → ∃ ad, A = some ad ∧ ∀ j, j < n → w.cell? (ad.add j) = some (enc (xs.getD j d)))
theorem ReadsOf.at_ {w : World} {A : Option Addr} {n : Nat} {xs : List α} (h : ReadsOf enc d w A n xs) (i : Int) (h0 : 0 ≤ i) (h1 : i < n) : ∃ ad, A = some ad ∧ w.cell? (ad.add i.toNat) = some (enc (rdOf d xs i)) := by
  obtain ⟨ad, e, hc⟩ := h.2.2 (by omega)
  exact ⟨ad, e, hc _ (by omega)⟩
theorem ReadsOf.below {w w1 : World} {A : Option Addr} {n : Nat} {xs : List α} (h : ReadsOf enc d w A n xs) (hb : Below w.heap.size w w1) : ReadsOf enc d w1 A n xs :=
  ⟨h.1, h.2.1, fun hn => by
    obtain ⟨ad, e, hc⟩ := h.2.2 hn
    exact ⟨ad, e, fun j hj => pw_cell_below hb (hc j hj)⟩⟩
theorem ReadsOf.take_ {w : World} {A : Option Addr} {n : Nat} {xs : List α} (h : ReadsOf enc d w A n xs) (i : Nat) (hi : i ≤ n) : ReadsOf enc d w A i (xs.take i) := by
  refine ⟨by rw [List.length_take, h.1]; omega, by have := h.2.1; omega, fun hp => ?_⟩
  obtain ⟨ad, e, hc⟩ := h.2.2 (by omega)
  refine ⟨ad, e, fun j hj => ?_⟩
  rw [hc j (by omega)]
  simp [List.getD_eq_getElem?_getD, hj]
theorem ReadsOf.drop_ {w : World} {A : Option Addr} {n c : Nat} {xs : List α} (h : ReadsOf enc d w A n xs) (i : Nat) (hi : i ≤ n) (hc : n ≤ c) : ReadsOf enc d w (if c = i then A else A.map (·.add i)) (n - i) (xs.drop i) := by
  refine ⟨by rw [List.length_drop, h.1], by have := h.2.1; omega, fun hp => ?_⟩
  obtain ⟨ad, rfl, hcell⟩ := h.2.2 (by omega)
  rw [if_neg (by omega)]
  refine ⟨ad.add i, rfl, fun j hj => ?_⟩
  have ha : (ad.add i).add j = ad.add (i + j) := by
    unfold Addr.add
    by_cases h1 : i = 0 <;> by_cases h2 : j = 0 <;> simp [h1, h2, Nat.add_assoc]
  rw [ha, hcell (i + j) (by omega)]
  simp [List.getD_eq_getElem?_getD, List.getElem?_drop]
/-- 'xs[m:]' without a case on the capacity (print_cut for any enc). -/
theorem print_cut_of {P : Program} (enc : α → Value) (d : α) (t e : TypeId) (kl : IntKind) {i : TypeInfo} (ht : P.underlying t = some (.slice e)) (hi : P.info? e = some i) (hsz : i.size = 1) (A : Option Addr) (n c m : Nat) (hm : m ≤ n) :
    ∃ A' : Option Addr, (∀ W : World, (Instr.slice t (.slice A n c) (some (.int kl (m : Int))) none none).run P W = .ok (.slice A' (n - m) (c - m)) W) ∧
      ∀ (w : World) (xs : List α), n ≤ c → ReadsOf enc d w A n xs → ReadsOf enc d w A' (n - m) (xs.drop m) := by
  refine ⟨if c = m then A else A.map (·.add m), fun W => ?_, fun w xs hc h => h.drop_ m hm hc⟩
  have hel : P.elem t = e := by simp [Program.elem, ht]
  have hu : P.underlying t = some (.slice (P.elem t)) := by rw [hel]; exact ht
  rw [run_slice_l W t A n c hu kl (m : Int) (Int.natCast_nonneg _) (by omega), hel]
  simp [sizeOf, typeInfo, hi, hsz, sliced, Result.andThen]
end
section
variable {α : Type} {P : Program} {ops : Array Oper} {rest : List Oper} {o : Oper} {a : Act} {Q : Exit → Act → World → Prop}
end

/-! ### 17. Rows of one element type held at once: no two share a block -/
def NeRow (v v' : Value) : Prop := ∀ k, v.ownBlock = some k → v'.ownBlock ≠ some k
/-! ### 18. A block behind a new one; behind a draw -/
theorem blk_alloc {w : World} {g : Nat} {o : Obj} (h : w.heap[g]? = some o) (o' : Obj) : (w.alloc o').heap[g]? = some o := (Below.heap_alloc w o' g (blk_lt h)).trans h
theorem blk_drew {w : World} {g : Nat} {o : Obj} (h : w.heap[g]? = some o) : w.drew.heap[g]? = some o := h
theorem blk_drewN {w : World} {g : Nat} {o : Obj} (h : w.heap[g]? = some o) (n : Nat) : (w.drewN n).heap[g]? = some o := h
theorem blk_below {w w1 : World} {g : Nat} {o : Obj} (h : w.heap[g]? = some o) (hb : Below w.heap.size w w1) : w1.heap[g]? = some o := (hb.block g (blk_lt h)).trans h
theorem blk_new (w : World) (o : Obj) : (w.alloc o).heap[w.heap.size]? = some o := heap_alloc_new w o
/-! ### 19. Results that lie in memory beside others -/
section
variable {P : Program}
end
/-! ### 20. Rows of elements of any kind: R is what an element's cells say -/
theorem own_le {w : World} {base n m c size : Nat} {e : TypeId} {A : Option Addr} {xs : List Value} (h : w.ownsRow base e size (.slice A m c) n xs) : m ≤ c := by
  rcases h.2 with ⟨he, _⟩ | ⟨g, cap, cur, he, _, _, hnc, _⟩
  · injection he with _ h2 h3
    omega
  · injection he with _ h2 h3
    omega
def OwnRow {α : Type} (R : α → List Value → Prop) (e : TypeId) (size : Nat) (w : World) (base : Nat) (v : Value) (ps : List α) : Prop :=
  ∃ inner, w.ownsRow base e size v ps.length inner ∧ Reps R size ps inner
section
variable {α : Type} {R R' : α → List Value → Prop} {e : TypeId} {size : Nat} {w w1 : World} {base : Nat} {v : Value} {ps : List α}
theorem OwnRow.none_ (R : α → List Value → Prop) (e : TypeId) (size : Nat) (w : World) (base : Nat) : OwnRow R e size w base (.slice none 0 0) [] := ⟨[], own_nil _ _ _ _, Reps.none _ _⟩
theorem OwnRow.imp_ (h : OwnRow R e size w base v ps) (hR : ∀ p c, R p c → R' p c) : OwnRow R' e size w base v ps := by
  obtain ⟨inner, ho, hr⟩ := h
  exact ⟨inner, ho, hr.imp_ hR⟩
theorem OwnRow.below (h : OwnRow R e size w base v ps) (hb : Below w.heap.size w w1) : OwnRow R e size w1 base v ps := by
  obtain ⟨inner, ho, hr⟩ := h
  exact ⟨inner, pw_own_below ho hb, hr⟩
theorem OwnRow.other (h : OwnRow R e size w base v ps) {row : Option Nat} (hg : w.grownBy w1 row) (hne : v.ownBlock = none ∨ v.ownBlock ≠ row) : OwnRow R e size w1 base v ps := by
  obtain ⟨inner, ho, hr⟩ := h
  exact ⟨inner, own_other ho hg hne, hr⟩
theorem OwnRow.reads (h : OwnRow R e size w base v ps) : ∃ A c, v = .slice A ps.length c ∧ ps.length ≤ c ∧ ReadsRow R size w A ps.length ps := by
  obtain ⟨inner, ho, hr⟩ := h
  obtain ⟨A, c, rfl, hrow⟩ := own_reads_row ho hr rfl
  exact ⟨A, c, rfl, own_le ho, hrow⟩
end
section
variable {P : Program} {ops : Array Oper} {rest : List Oper} {o : Oper} {a : Act} {Q : Exit → Act → World → Prop} {α : Type} {R : α → List Value → Prop}
/-- append(v, x): x's cells are cs. R is that of the world AHEAD; move it over hg ('OwnRow.imp_'). -/
theorem OwnRow.append {w0 W : World} (base : Nat) (hgd : o.guard = none) (s x : Operand) (t e : TypeId) (z : Value) (size bytes : Nat)
    (ho : o.op = .call { callee := .builtin .append, args := #[s, x], argTypes := #[t, t] })
    (ht : P.underlying t = some (.slice e)) (hinfo : (P.info? e).map (fun i => (i.zero, i.size, i.bytes)) = some (some z, size, bytes)) (hz : z.cells.size = size) (hs0 : 0 < size) (hb0 : 0 < bytes)
    (v : Value) (ps : List α) (p : α) (cs : List Value) (hs : a.eval s = v) (hx : a.eval x = .slice (some ⟨W.heap.size, 0, none⟩) 1 1) (hp : R p cs) (hcs : cs.length = size) (h1 : ∀ u ∈ cs, u.oneCell' = true)
    (HO : OwnRow R e size W base v ps) (HB : Below base w0 W) (hbase : base ≤ W.heap.size) (hl : (ps.length + 1) * bytes ≤ 140737488355328)
    (h : ∀ v1 w1, OwnRow R e size w1 base v1 (ps ++ [p]) → Below base w0 w1 → W.grownBy w1 v.ownBlock → (v1.ownBlock = v.ownBlock ∨ ∃ b, v1.ownBlock = some b ∧ W.heap.size ≤ b) → wpList P ops Q rest (a.put o.dst v1) w1) :
    wpList P ops Q (o :: rest) a (W.alloc (.cells cs.toArray e)) := by
  obtain ⟨inner, hown, hr⟩ := HO
  refine print_append_cells base hgd s x t e z size bytes ho ht hinfo hz hs0 hb0 v ps.length inner cs hs hx hcs h1 hown HB hbase hl ?_
  intro v1 w1 hown1 hb1 hg1 hat1
  exact h v1 w1 ⟨inner ++ cs, by rw [List.length_append, List.length_singleton]; exact hown1, hr.snoc hp hcs⟩ hb1 hg1 hat1
end
section
variable {P : Program} {ops : Array Oper} {o : Oper} {a : Act} {Q : Exit → Act → World → Prop} {K : Act → World → Prop} {α : Type} {R : α → List Value → Prop}
end
/-- What is read as_ a row has its cells one behind the other. -/
theorem ReadsRow.inner_ {α : Type} {R : α → List Value → Prop} {size : Nat} {w : World} {ad : Addr} {n : Nat} {ps : List α} (h : ReadsRow R size w (some ad) n ps) :
    ∃ inner, Reps R size ps inner ∧ ∀ j u, inner[j]? = some u → w.cell? (ad.add j) = some u := by
  have key : ∀ m, m ≤ ps.length → ∃ inner, Reps R size (ps.take m) inner ∧ ∀ j u, inner[j]? = some u → w.cell? (ad.add j) = some u := by
    intro m
    induction m with
    | zero => exact fun _ => ⟨[], Reps.none _ _, fun j u hu => by simp at hu⟩
    | succ m ih =>
      intro hm
      obtain ⟨inner, hr, hc⟩ := ih (by omega)
      obtain ⟨ad', he, hcell⟩ := h.2.2 (by have := h.1; omega)
      injection he with he
      subst he
      obtain ⟨c, hcl, hp, hcc⟩ := hcell m _ (List.getElem?_eq_getElem (show m < ps.length by omega))
      refine ⟨inner ++ c, ?_, fun j u hu => ?_⟩
      · rw [List.take_succ_eq_append_getElem (show m < ps.length by omega)]
        exact hr.snoc hp hcl
      · have hil : inner.length = m * size := by rw [hr.1, List.length_take, Nat.min_eq_left (by omega)]
        rcases Nat.lt_or_ge j inner.length with hj | hj
        · rw [List.getElem?_append_left hj] at hu
          exact hc j u hu
        · rw [List.getElem?_append_right hj] at hu
          have := hcc (j - inner.length) u hu
          rwa [hil, Nat.add_sub_cancel' (by omega)] at this
  obtain ⟨inner, hr, hc⟩ := key ps.length (Nat.le_refl _)
  rw [List.take_length] at hr
  exact ⟨inner, hr, hc⟩
/-! ### 21. Cuts of a slice that came in, lengths spelled as_ the lists' -/
section
variable {α : Type} {P : Program}
theorem print_drop_of (enc : α → Value) (d : α) (t e : TypeId) (kl : IntKind) {i : TypeInfo} (ht : P.underlying t = some (.slice e)) (hi : P.info? e = some i) (hsz : i.size = 1) (A : Option Addr) (c : Nat) (xs : List α) (j : Int) (h0 : 0 ≤ j) (hm : j ≤ xs.length) (hc : xs.length ≤ c) :
    ∃ A' : Option Addr, (∀ W : World, (Instr.slice t (.slice A xs.length c) (some (.int kl j)) none none).run P W = .ok (.slice A' (xs.drop j.toNat).length (c - j.toNat)) W) ∧
      (∀ w : World, ReadsOf enc d w A xs.length xs → ReadsOf enc d w A' (xs.drop j.toNat).length (xs.drop j.toNat)) ∧ (xs.drop j.toNat).length ≤ c - j.toNat := by
  obtain ⟨m, rfl⟩ := Int.eq_ofNat_of_zero_le h0
  simp only [Int.toNat_natCast]
  have hmn : m ≤ xs.length := by omega
  obtain ⟨A', h1, h2⟩ := print_cut_of (P := P) enc d t e kl ht hi hsz A xs.length c m hmn
  have hl : (xs.drop m).length = xs.length - m := List.length_drop
  exact ⟨A', fun W => by rw [hl]; exact h1 W, fun w h => by rw [hl]; exact h2 w xs hc h, by rw [hl]; omega⟩
theorem print_mid_of (enc : α → Value) (d : α) (t e : TypeId) (kl kh : IntKind) {i : TypeInfo} (ht : P.underlying t = some (.slice e)) (hi : P.info? e = some i) (hsz : i.size = 1) (A : Option Addr) (c : Nat) (xs : List α) (a b : Int) (h0 : 0 ≤ a) (h1 : a ≤ b) (hm : b ≤ xs.length) (hc : xs.length ≤ c) :
    ∃ A' : Option Addr, (∀ W : World, (Instr.slice t (.slice A xs.length c) (some (.int kl a)) (some (.int kh b)) none).run P W = .ok (.slice A' ((xs.take b.toNat).drop a.toNat).length (c - a.toNat)) W) ∧
      (∀ w : World, ReadsOf enc d w A xs.length xs → ReadsOf enc d w A' ((xs.take b.toNat).drop a.toNat).length ((xs.take b.toNat).drop a.toNat)) ∧ ((xs.take b.toNat).drop a.toNat).length ≤ c - a.toNat := by
  have hlt : (xs.take b.toNat).length = b.toNat := by rw [List.length_take]; omega
  have hl : ((xs.take b.toNat).drop a.toNat).length = b.toNat - a.toNat := by rw [List.length_drop, hlt]
  refine ⟨if c = a.toNat then A else A.map (·.add a.toNat), fun W => ?_, fun w h => ?_, by rw [hl]; omega⟩
  · have hel : P.elem t = e := by simp [Program.elem, ht]
    have hu : P.underlying t = some (.slice (P.elem t)) := by rw [hel]; exact ht
    rw [run_slice_lh W t A xs.length c hu kl kh a b h0 h1 (by omega), hel, hl]
    simp [sizeOf, typeInfo, hi, hsz, sliced, Result.andThen]
  · have h2 := (h.take_ b.toNat (by omega)).drop_ (c := c) a.toNat (by omega) (by omega)
    rw [hl]
    exact h2
end

/-! ### 22. append([]byte, s...), s a string; behind 'at_builtin'. (No word on where the new row lies: two rows of bytes at once don't go by it.) -/
section
variable {P : Program} {ops : Array Oper} {rest : List Oper} {o : Oper} {a : Act} {Q : Exit → Act → World → Prop}
end
/-! ### 23. KINDS: what a value's cells say, read (K) and made (M), kind by kind; every mover proved once -/
/-- ok: which blocks the rows inside may be ('not the row that is being written'). -/
structure Kd (α : Type) where
  sz : Nat
  E : List Nat
  K : World → α → List Value → Prop
  M : World → Nat → (Nat → Prop) → α → List Value → Prop
  K_len : ∀ {w x cs}, K w x cs → cs.length = sz
  K_one : ∀ {w x cs}, K w x cs → ∀ u ∈ cs, u.oneCell' = true
  K_below : ∀ {w w1 : World} {x cs}, Below w.heap.size w w1 → K w x cs → K w1 x cs
  K_of_M : ∀ {w base ok x cs}, M w base ok x cs → K w x cs
  M_mono : ∀ {w base ok ok' x cs}, (∀ k, ok k → ok' k) → M w base ok x cs → M w base ok' x cs
  M_bound : ∀ {w : World} {base ok x cs}, M w base ok x cs → M w base (fun k => ok k ∧ base ≤ k ∧ k < w.heap.size ∧ ∃ q, q ∈ E ∧ ∃ cells, w.heap[k]? = some (.cells cells q (0, 0))) x cs
  M_move : ∀ {w w1 : World} {base ok x cs}, (∀ k, ok k → w1.heap[k]? = w.heap[k]?) → M w base ok x cs → M w1 base ok x cs
  M_lower : ∀ {w base base' ok x cs}, base' ≤ base → M w base ok x cs → M w base' ok x cs

theorem own_move {w w1 : World} {base : Nat} {e : TypeId} {size n : Nat} {v : Value} {xs : List Value} (h : w.ownsRow base e size v n xs) (hm : ∀ k, v.ownBlock = some k → w1.heap[k]? = w.heap[k]?) : w1.ownsRow base e size v n xs := by
  obtain ⟨h1, h2⟩ := h
  refine ⟨h1, ?_⟩
  rcases h2 with h2 | ⟨g, cap, cur, rfl, hg, hh, r⟩
  · exact .inl h2
  · exact .inr ⟨g, cap, cur, rfl, hg, (hm g (by simp [Value.ownBlock])).trans hh, r⟩
theorem own_typed {w : World} {base : Nat} {e : TypeId} {size n : Nat} {v : Value} {xs : List Value} (h : w.ownsRow base e size v n xs) (k : Nat) (hk : v.ownBlock = some k) : ∃ cells, w.heap[k]? = some (.cells cells e (0, 0)) := by
  rcases h.2 with ⟨rfl, _⟩ | ⟨g, cap, cur, rfl, hg, hh, r⟩
  · simp [Value.ownBlock] at hk
  · have : g = k := by simpa [Value.ownBlock] using hk
    subst this
    exact ⟨cur, hh⟩

namespace Kd
/-- A row of elements that is read. -/
def C {α : Type} (d : Kd α) (w : World) (A : Option Addr) (n : Nat) (xs : List α) : Prop := ReadsRow (d.K w) d.sz w A n xs
/-- A row of elements (type e) of the call's own; the elements' rows are not this one. -/
def R {α : Type} (d : Kd α) (e : Nat) (w : World) (base : Nat) (ok : Nat → Prop) (v : Value) (xs : List α) : Prop :=
  (∀ k, v.ownBlock = some k → ok k) ∧ OwnRow (d.M w base (fun k => ok k ∧ some k ≠ v.ownBlock)) e d.sz w base v xs
section
variable {α : Type} {d : Kd α} {e : Nat} {w w1 : World} {base : Nat} {ok ok' : Nat → Prop} {v : Value} {xs : List α}
theorem C_below {A : Option Addr} {n : Nat} (h : d.C w A n xs) (hb : Below w.heap.size w w1) : d.C w1 A n xs := ReadsRow.imp_ h hb (fun _ _ hp => d.K_below hb hp)
theorem R_nil (d : Kd α) (e : Nat) (w : World) (base : Nat) (ok : Nat → Prop) : d.R e w base ok (.slice none 0 0) [] := ⟨fun k hk => by simp [Value.ownBlock] at hk, OwnRow.none_ _ _ _ _ _⟩
theorem R_mono (h : d.R e w base ok v xs) (hok : ∀ k, ok k → ok' k) : d.R e w base ok' v xs := ⟨fun k hk => hok k (h.1 k hk), h.2.imp_ (fun _ _ hp => d.M_mono (fun k hk => ⟨hok k hk.1, hk.2⟩) hp)⟩
theorem R_bound (h : d.R e w base ok v xs) : d.R e w base (fun k => ok k ∧ base ≤ k ∧ k < w.heap.size ∧ ∃ q, q ∈ e :: d.E ∧ ∃ cells, w.heap[k]? = some (.cells cells q (0, 0))) v xs := by
  obtain ⟨h0, inner, ho, hr⟩ := h
  refine ⟨fun k hk => ?_, inner, ho, hr.imp_ (fun _ _ hp => d.M_mono (fun k hk => ?_) (d.M_bound hp))⟩
  · obtain ⟨cells, hc⟩ := own_typed ho k hk
    exact ⟨h0 k hk, own_base ho k hk, own_lt ho k hk, e, List.mem_cons_self, cells, hc⟩
  · obtain ⟨⟨h1, h2⟩, h3, h4, q, hq, hc⟩ := hk
    exact ⟨⟨h1, h3, h4, q, List.mem_cons_of_mem _ hq, hc⟩, h2⟩
theorem R_move (h : d.R e w base ok v xs) (hm : ∀ k, ok k → w1.heap[k]? = w.heap[k]?) : d.R e w1 base ok v xs := by
  obtain ⟨h0, inner, ho, hr⟩ := h
  exact ⟨h0, inner, own_move ho (fun k hk => hm k (h0 k hk)), hr.imp_ (fun _ _ hp => d.M_move (fun k hk => hm k hk.1) hp)⟩
theorem R_lower {base' : Nat} (h : d.R e w base ok v xs) (hb : base' ≤ base) : d.R e w base' ok v xs := by
  obtain ⟨h0, inner, ho, hr⟩ := h
  exact ⟨h0, inner, own_weaken ho hb, hr.imp_ (fun _ _ hp => d.M_lower hb hp)⟩
/-- Any mover: what is ok, and a block of w's, stays. -/
theorem R_step (h : d.R e w base ok v xs) (hm : ∀ k, ok k → k < w.heap.size → w1.heap[k]? = w.heap[k]?) : d.R e w1 base ok v xs :=
  R_mono (R_move (R_bound h) (fun k hk => hm k hk.1 hk.2.2.1)) (fun _ hk => hk.1)
theorem M_step {x : α} {cs : List Value} (h : d.M w base ok x cs) (hm : ∀ k, ok k → k < w.heap.size → w1.heap[k]? = w.heap[k]?) : d.M w1 base ok x cs :=
  d.M_mono (fun _ hk => hk.1) (d.M_move (fun k hk => hm k hk.1 hk.2.2.1) (d.M_bound h))
theorem R_below (h : d.R e w base ok v xs) (hb : Below w.heap.size w w1) : d.R e w1 base ok v xs := R_step h (fun k _ hk => hb.block k hk)
/-- Another row (a block, or none) has been written. -/
theorem R_grown (h : d.R e w base ok v xs) {row : Option Nat} (hg : w.grownBy w1 row) (hok : ∀ k, ok k → some k ≠ row) : d.R e w1 base ok v xs := R_step h (fun k ho hk => hg.block k hk (hok k ho))
theorem R_reads (h : d.R e w base ok v xs) : ∃ A c, v = .slice A xs.length c ∧ xs.length ≤ c ∧ d.C w A xs.length xs := by
  obtain ⟨A, c, he, hl, hr⟩ := OwnRow.reads h.2
  exact ⟨A, c, he, hl, hr.imp_ (Below.refl _ _) (fun _ _ hp => d.K_of_M hp)⟩
theorem R_slice (h : d.R e w base ok v xs) : ∃ A c, v = .slice A xs.length c := by
  obtain ⟨A, c, he, _⟩ := R_reads h
  exact ⟨A, c, he⟩
end

/-! #### the kinds -/
def scalar {α : Type} (enc : α → Value) (h1 : ∀ x, (enc x).oneCell' = true) : Kd α where
  sz := 1
  E := []
  K := fun _ x cs => cs = [enc x]
  M := fun _ _ _ x cs => cs = [enc x]
  K_len := fun h => by rw [h]; rfl
  K_one := fun h u hu => by
    rw [h] at hu
    rw [List.mem_singleton.1 hu]
    exact h1 _
  K_below := fun _ h => h
  K_of_M := fun h => h
  M_mono := fun _ h => h
  M_bound := fun h => h
  M_move := fun _ h => h
  M_lower := fun _ h => h
def int (k : IntKind) : Kd Int := scalar (Value.int k) (fun _ => rfl)
def bool : Kd Bool := scalar Value.bool (fun _ => rfl)
def string : Kd ByteArray := scalar Value.string (fun _ => rfl)
def slice {α : Type} (e : Nat) (d : Kd α) : Kd (List α) where
  sz := 1
  E := e :: d.E
  K := fun w xs cs => ∃ A c, cs = [.slice A xs.length c] ∧ xs.length ≤ c ∧ d.C w A xs.length xs
  M := fun w base ok xs cs => ∃ v, cs = [v] ∧ d.R e w base ok v xs
  K_len := by
    rintro w x cs ⟨A, c, rfl, _⟩
    rfl
  K_one := by
    rintro w x cs ⟨A, c, rfl, _⟩ u hu
    rw [List.mem_singleton.1 hu]
    rfl
  K_below := by
    rintro w w1 x cs hb ⟨A, c, rfl, hl, hr⟩
    exact ⟨A, c, rfl, hl, C_below hr hb⟩
  K_of_M := by
    rintro w base ok x cs ⟨v, rfl, h⟩
    obtain ⟨A, c, rfl, hl, hr⟩ := R_reads h
    exact ⟨A, c, rfl, hl, hr⟩
  M_mono := by
    rintro w base ok ok' x cs hok ⟨v, rfl, h⟩
    exact ⟨v, rfl, R_mono h hok⟩
  M_bound := by
    rintro w base ok x cs ⟨v, rfl, h⟩
    exact ⟨v, rfl, R_bound h⟩
  M_move := by
    rintro w w1 base ok x cs hm ⟨v, rfl, h⟩
    exact ⟨v, rfl, R_move h hm⟩
  M_lower := by
    rintro w base base' ok x cs hb ⟨v, rfl, h⟩
    exact ⟨v, rfl, R_lower h hb⟩
/-- Two in line. -/
def pair {α β : Type} (a : Kd α) (b : Kd β) : Kd (α × β) where
  sz := a.sz + b.sz
  E := a.E ++ b.E
  K := fun w x cs => ∃ c0 c1, cs = c0 ++ c1 ∧ a.K w x.1 c0 ∧ b.K w x.2 c1
  M := fun w base ok x cs => ∃ c0 c1, cs = c0 ++ c1 ∧ a.M w base ok x.1 c0 ∧ b.M w base ok x.2 c1
  K_len := by
    rintro w x cs ⟨c0, c1, rfl, h0, h1⟩
    rw [List.length_append, a.K_len h0, b.K_len h1]
  K_one := by
    rintro w x cs ⟨c0, c1, rfl, h0, h1⟩ u hu
    rcases List.mem_append.1 hu with hu | hu
    · exact a.K_one h0 u hu
    · exact b.K_one h1 u hu
  K_below := by
    rintro w w1 x cs hb ⟨c0, c1, rfl, h0, h1⟩
    exact ⟨c0, c1, rfl, a.K_below hb h0, b.K_below hb h1⟩
  K_of_M := by
    rintro w base ok x cs ⟨c0, c1, rfl, h0, h1⟩
    exact ⟨c0, c1, rfl, a.K_of_M h0, b.K_of_M h1⟩
  M_mono := by
    rintro w base ok ok' x cs hok ⟨c0, c1, rfl, h0, h1⟩
    exact ⟨c0, c1, rfl, a.M_mono hok h0, b.M_mono hok h1⟩
  M_bound := by
    rintro w base ok x cs ⟨c0, c1, rfl, h0, h1⟩
    refine ⟨c0, c1, rfl, a.M_mono ?_ (a.M_bound h0), b.M_mono ?_ (b.M_bound h1)⟩
    · rintro k ⟨h2, h3, h4, q, hq, hc⟩
      exact ⟨h2, h3, h4, q, List.mem_append_left _ hq, hc⟩
    · rintro k ⟨h2, h3, h4, q, hq, hc⟩
      exact ⟨h2, h3, h4, q, List.mem_append_right _ hq, hc⟩
  M_move := by
    rintro w w1 base ok x cs hm ⟨c0, c1, rfl, h0, h1⟩
    exact ⟨c0, c1, rfl, a.M_move hm h0, b.M_move hm h1⟩
  M_lower := by
    rintro w base base' ok x cs hb ⟨c0, c1, rfl, h0, h1⟩
    exact ⟨c0, c1, rfl, a.M_lower hb h0, b.M_lower hb h1⟩
/-- A Lean structure by its fields. -/
def iso {α β : Type} (d : Kd α) (f : β → α) : Kd β where
  sz := d.sz
  E := d.E
  K := fun w x cs => d.K w (f x) cs
  M := fun w base ok x cs => d.M w base ok (f x) cs
  K_len := d.K_len
  K_one := d.K_one
  K_below := d.K_below
  K_of_M := d.K_of_M
  M_mono := d.M_mono
  M_bound := d.M_bound
  M_move := d.M_move
  M_lower := d.M_lower
/-- Nothing is of this kind: where the nesting's depth is used up. -/
def bot {α : Type} (sz : Nat) (E : List Nat) : Kd α where
  sz := sz
  E := E
  K := fun _ _ _ => False
  M := fun _ _ _ _ _ => False
  K_len := fun h => h.elim
  K_one := fun h => h.elim
  K_below := fun _ h => h
  K_of_M := fun h => h
  M_mono := fun _ h => h
  M_bound := fun h => h
  M_move := fun _ h => h
  M_lower := fun _ h => h
/-- A type nested in itself: nested at most n deep .. -/
def upto {α : Type} (F : Kd α → Kd α) (sz : Nat) (E : List Nat) : Nat → Kd α
  | 0 => bot sz E
  | n + 1 => F (upto F sz E n)
/-- .. for some n. -/
def fix {α : Type} (F : Kd α → Kd α) (sz : Nat) (E : List Nat) (hs : ∀ n, (upto F sz E n).sz = sz) (hE : ∀ n q, q ∈ (upto F sz E n).E → q ∈ E) : Kd α where
  sz := sz
  E := E
  K := fun w x cs => ∃ n, (upto F sz E n).K w x cs
  M := fun w base ok x cs => ∃ n, (upto F sz E n).M w base ok x cs
  K_len := by
    rintro w x cs ⟨n, h⟩
    rw [(upto F sz E n).K_len h, hs n]
  K_one := by
    rintro w x cs ⟨n, h⟩
    exact (upto F sz E n).K_one h
  K_below := by
    rintro w w1 x cs hb ⟨n, h⟩
    exact ⟨n, (upto F sz E n).K_below hb h⟩
  K_of_M := by
    rintro w base ok x cs ⟨n, h⟩
    exact ⟨n, (upto F sz E n).K_of_M h⟩
  M_mono := by
    rintro w base ok ok' x cs hok ⟨n, h⟩
    exact ⟨n, (upto F sz E n).M_mono hok h⟩
  M_bound := by
    rintro w base ok x cs ⟨n, h⟩
    refine ⟨n, (upto F sz E n).M_mono ?_ ((upto F sz E n).M_bound h)⟩
    rintro k ⟨h2, h3, h4, q, hq, hc⟩
    exact ⟨h2, h3, h4, q, hE n q hq, hc⟩
  M_move := by
    rintro w w1 base ok x cs hm ⟨n, h⟩
    exact ⟨n, (upto F sz E n).M_move hm h⟩
  M_lower := by
    rintro w base base' ok x cs hb ⟨n, h⟩
    exact ⟨n, (upto F sz E n).M_lower hb h⟩

/-! #### an element of a row that is read; an element appended -/
theorem C_get {α : Type} {d : Kd α} {w : World} {A : Option Addr} {n : Nat} {xs : List α} (h : d.C w A n xs) (z : α) (i : Int) (h0 : 0 ≤ i) (h1 : i < n) :
    ∃ ad c, A = some ad ∧ c.length = d.sz ∧ d.K w (xs.getD i.toNat z) c ∧ ∀ j u, c[j]? = some u → w.cell? (ad.add (i.toNat * d.sz + j)) = some u := ReadsRow.get_ h z i h0 h1
/-- What an append leaves: the old elements' rows and the new one's are not the new row's block. -/
theorem R_appended {α : Type} {d : Kd α} {e base : Nat} {ok okp : Nat → Prop} {W w1 : World} {v v1 : Value} {xs : List α} {p : α} {inner cs : List Value} (h0 : ∀ k, v.ownBlock = some k → ok k) (hr : Reps (d.M W base (fun k => ok k ∧ some k ≠ v.ownBlock)) d.sz xs inner) (hp : d.M W base okp p cs) (hokp : ∀ k, okp k → ok k ∧ some k ≠ v.ownBlock) (hfresh : ∀ k, W.heap.size ≤ k → ok k)
    (hown : w1.ownsRow base e d.sz v1 (xs.length + 1) (inner ++ cs)) (hg : W.grownBy w1 v.ownBlock) (hat : v1.ownBlock = v.ownBlock ∨ ∃ b, v1.ownBlock = some b ∧ W.heap.size ≤ b) : d.R e w1 base ok v1 (xs ++ [p]) := by
  have hne : ∀ k, some k ≠ v.ownBlock → k < W.heap.size → some k ≠ v1.ownBlock := by
    intro k hk hlt
    rcases hat with hat | ⟨b, hb, hle⟩
    · rw [hat]; exact hk
    · rw [hb]
      intro he
      injection he with he
      omega
  have step : ∀ {q : α} {c : List Value} {o : Nat → Prop}, d.M W base o q c → (∀ k, o k → ok k ∧ some k ≠ v.ownBlock) → d.M w1 base (fun k => ok k ∧ some k ≠ v1.ownBlock) q c := by
    intro q c o hq ho
    have h1 := d.M_move (w1 := w1) (fun k hk => hg.block k hk.2.2.1 (ho k hk.1).2) (d.M_bound hq)
    exact d.M_mono (fun k hk => ⟨(ho k hk.1).1, hne k (ho k hk.1).2 hk.2.2.1⟩) h1
  refine ⟨fun k hk => ?_, inner ++ cs, by rw [List.length_append, List.length_singleton]; exact hown, ?_⟩
  · rcases hat with hat | ⟨b, hb, hle⟩
    · exact h0 k (hat ▸ hk)
    · rw [hb] at hk
      injection hk with hk
      exact hfresh k (by omega)
  · exact (hr.imp_ (fun _ _ hq => step hq (fun _ hk => hk))).snoc (step hp hokp) (d.K_len (d.K_of_M hp))
section
variable {P : Program} {ops : Array Oper} {rest : List Oper} {o : Oper} {a : Act} {Q : Exit → Act → World → Prop} {α : Type}
/-- append(v, x), behind 'at_builtin'; the goal's world is 'W.alloc' of the variadic's box; x's cells are cs, made (its rows satisfy okp). hfresh: a block that is new at W is ok. -/
theorem R_append (d : Kd α) {w0 W : World} (base : Nat) (hgd : o.guard = none) (s x : Operand) (t e : TypeId) (z : Value) (bytes : Nat)
    (ho : o.op = .call { callee := .builtin .append, args := #[s, x], argTypes := #[t, t] })
    (ht : P.underlying t = some (.slice e)) (hinfo : (P.info? e).map (fun i => (i.zero, i.size, i.bytes)) = some (some z, d.sz, bytes)) (hz : z.cells.size = d.sz) (hs0 : 0 < d.sz) (hb0 : 0 < bytes)
    (v : Value) (xs : List α) (p : α) (cs : List Value) (ok okp : Nat → Prop) (hs : a.eval s = v) (hx : a.eval x = .slice (some ⟨W.heap.size, 0, none⟩) 1 1) (hp : d.M W base okp p cs) (hokp : ∀ k, okp k → ok k ∧ some k ≠ v.ownBlock) (hfresh : ∀ k, W.heap.size ≤ k → ok k)
    (HO : d.R e W base ok v xs) (HB : Below base w0 W) (hbase : base ≤ W.heap.size) (hl : (xs.length + 1) * bytes ≤ 140737488355328)
    (h : ∀ v1 w1, d.R e w1 base ok v1 (xs ++ [p]) → Below base w0 w1 → W.grownBy w1 v.ownBlock → (v1.ownBlock = v.ownBlock ∨ ∃ b, v1.ownBlock = some b ∧ W.heap.size ≤ b) → wpList P ops Q rest (a.put o.dst v1) w1) :
    wpList P ops Q (o :: rest) a (W.alloc (.cells cs.toArray e)) := by
  obtain ⟨h0, inner, hown, hr⟩ := HO
  refine print_append_cells base hgd s x t e z d.sz bytes ho ht hinfo hz hs0 hb0 v xs.length inner cs hs hx (d.K_len (d.K_of_M hp)) (d.K_one (d.K_of_M hp)) hown HB hbase hl ?_
  intro v1 w1 hown1 hb1 hg1 hat1
  exact h v1 w1 (R_appended h0 hr hp hokp hfresh hown1 hg1 hat1) hb1 hg1 hat1
end
section
variable {P : Program} {ops : Array Oper} {o : Oper} {a : Act} {Q : Exit → Act → World → Prop} {Kc : Act → World → Prop} {α : Type}
end
/-- A row of scalars is the elder form. -/
theorem reps_scalar {α : Type} {enc : α → Value} (xs : List α) : Reps (fun (x : α) (cs : List Value) => cs = [enc x]) 1 xs (encs enc xs) := by
  refine ⟨by simp [encs], fun j p hj => ?_⟩
  obtain ⟨hl, hp⟩ := List.getElem?_eq_some_iff.1 hj
  have hl' : j < (encs enc xs).length := by rw [encs_length]; exact hl
  rw [Nat.mul_one, List.drop_eq_getElem_cons hl']
  simp [encs, hp]
theorem R_of_own {α : Type} {enc : α → Value} {h1 : ∀ x, (enc x).oneCell' = true} {e : Nat} {w : World} {base : Nat} {ok : Nat → Prop} {v : Value} {xs : List α} (ho : w.ownsRow base e 1 v xs.length (encs enc xs)) (hok : ∀ k, v.ownBlock = some k → ok k) : (scalar enc h1).R e w base ok v xs := ⟨hok, encs enc xs, ho, reps_scalar xs⟩
theorem own_of_R {α : Type} {enc : α → Value} {h1 : ∀ x, (enc x).oneCell' = true} {e : Nat} {w : World} {base : Nat} {ok : Nat → Prop} {v : Value} {xs : List α} (h : (scalar enc h1).R e w base ok v xs) : w.ownsRow base e 1 v xs.length (encs enc xs) := by
  obtain ⟨_, inner, ho, hr⟩ := h
  have : inner = encs enc xs := by
    apply List.ext_getElem?
    intro j
    rcases Nat.lt_or_ge j xs.length with hj | hj
    · have h2 := hr.2 j _ (List.getElem?_eq_getElem hj)
      have hl : j < inner.length := by have := hr.1; simp [scalar] at this; omega
      have h3 : (inner.drop (j * 1)).take 1 = [enc xs[j]] := h2
      rw [Nat.mul_one, List.drop_eq_getElem_cons hl] at h3
      have h4 : inner[j] = enc xs[j] := by
        have h5 := congrArg List.head? h3
        rw [List.take_succ_cons] at h5
        exact Option.some.inj h5
      rw [List.getElem?_eq_getElem hl, h4]
      simp [encs, List.getElem?_eq_getElem hj]
    · have h3 : inner.length = xs.length := by have := hr.1; simp [scalar] at this; omega
      rw [List.getElem?_eq_none (by omega), List.getElem?_eq_none (by rw [encs_length]; omega)]
  rw [← this]
  exact ho
theorem C_of_reads {α : Type} {enc : α → Value} {d : α} {h1 : ∀ x, (enc x).oneCell' = true} {w : World} {A : Option Addr} {n : Nat} {xs : List α} (h : ReadsOf enc d w A n xs) : (scalar enc h1).C w A n xs := by
  refine ⟨h.1, h.2.1, fun hn => ?_⟩
  obtain ⟨ad, e, hc⟩ := h.2.2 hn
  refine ⟨ad, e, fun j p hj => ⟨[enc p], rfl, rfl, fun i u hu => ?_⟩⟩
  obtain ⟨hl, hp⟩ := List.getElem?_eq_some_iff.1 hj
  have h2 := hc j (by have := h.1; omega)
  rw [List.getD_eq_getElem?_getD, hj] at h2
  cases i with
  | zero =>
    have : enc p = u := by simpa using hu
    subst this
    simpa [scalar] using h2
  | succ i => simp at hu
theorem reads_of_C {α : Type} {enc : α → Value} {d : α} {h1 : ∀ x, (enc x).oneCell' = true} {w : World} {A : Option Addr} {n : Nat} {xs : List α} (h : (scalar enc h1).C w A n xs) : ReadsOf enc d w A n xs := by
  refine ⟨h.1, h.2.1, fun hn => ?_⟩
  obtain ⟨ad, e, hc⟩ := h.2.2 hn
  refine ⟨ad, e, fun j hj => ?_⟩
  have hl : j < xs.length := by have := h.1; omega
  obtain ⟨c, _, hK, hcell⟩ := hc j _ (List.getElem?_eq_getElem hl)
  have hK' : c = [enc xs[j]] := hK
  subst hK'
  have := hcell 0 _ rfl
  simpa [scalar, List.getD_eq_getElem?_getD, List.getElem?_eq_getElem hl] using this
end Kd
/-! ### 24. Kinds nested in themselves -/
namespace Kd
/-- F says the more, the more its argument says. -/
structure Mono {α β : Type} (F : Kd α → Kd β) : Prop where
  sz : ∀ d d' : Kd α, d.sz = d'.sz → (F d).sz = (F d').sz
  K : ∀ d d' : Kd α, d.sz = d'.sz → (∀ w x cs, d.K w x cs → d'.K w x cs) → ∀ w x cs, (F d).K w x cs → (F d').K w x cs
  M : ∀ d d' : Kd α, d.sz = d'.sz → (∀ w base ok x cs, d.M w base ok x cs → d'.M w base ok x cs) → ∀ w base ok x cs, (F d).M w base ok x cs → (F d').M w base ok x cs
/-- The element types inside stay among E. -/
def Sub {α β : Type} (F : Kd α → Kd β) (E : List Nat) : Prop := ∀ d : Kd α, (∀ q, q ∈ d.E → q ∈ E) → ∀ q, q ∈ (F d).E → q ∈ E
section
variable {α : Type} {F : Kd α → Kd α} {sz : Nat} {E : List Nat} {hs : ∀ n, (upto F sz E n).sz = sz} {hE : ∀ n q, q ∈ (upto F sz E n).E → q ∈ E}
end
end Kd
/-! ### 25. What is held while another row is written: 'ok' says that its rows are none of that row's block -/
namespace Kd
end Kd
/-! ### 26. Words for a printer that takes every slice by its kind -/
namespace Kd
section
variable {α β : Type} {d : Kd α} {d' : Kd β} {e e' : Nat} {w w1 W : World} {base b b' : Nat} {ok ok' okv oku : Nat → Prop} {v u : Value} {xs : List α} {ys : List β}
theorem R_alloc (h : d.R e w base ok v xs) (o : Obj) : d.R e (w.alloc o) base ok v xs := R_below h (below_alloc (Below.refl _ _) o)
theorem R_drew (h : d.R e w base ok v xs) : d.R e w.drew base ok v xs := R_below h (below_drew (Below.refl _ _))
theorem R_drewN (h : d.R e w base ok v xs) (m : Nat) : d.R e (w.drewN m) base ok v xs := R_below h (pw_below_drewN (Below.refl _ _) m)
theorem C_alloc {A : Option Addr} {n : Nat} (h : d.C w A n xs) (o : Obj) : d.C (w.alloc o) A n xs := C_below h (below_alloc (Below.refl _ _) o)
theorem C_drew {A : Option Addr} {n : Nat} (h : d.C w A n xs) : d.C w.drew A n xs := C_below h (below_drew (Below.refl _ _))
theorem C_drewN {A : Option Addr} {n : Nat} (h : d.C w A n xs) (m : Nat) : d.C (w.drewN m) A n xs := C_below h (pw_below_drewN (Below.refl _ _) m)
theorem C_nil (d : Kd α) (w : World) : d.C w none ([] : List α).length [] := ⟨rfl, by simp, fun h => absurd h (Nat.lt_irrefl 0)⟩
end
/-! #### scalars -/
section
variable {w W : World} {A : Option Addr} {n : Nat}
theorem at_int {k : IntKind} {xs : List Int} (h : (Kd.int k).C w A n xs) (i : Int) (h0 : 0 ≤ i) (h1 : i < n) : ∃ ad, A = some ad ∧ w.cell? (ad.add i.toNat) = some (.int k (rd xs i)) :=
  ReadsOf.at_ (reads_of_C (enc := Value.int k) (d := (0 : Int)) (h1 := fun _ => rfl) h) i h0 h1
variable {α : Type} {enc : α → Value} {h1 : ∀ x, (enc x).oneCell' = true} {e base g cap : Nat} {ok : Nat → Prop} {xs : List α}
end

/-! #### events: a letter for what make and a literal leave -/
section
variable {P : Program} {ops : Array Oper} {rest : List Oper} {o : Oper} {a : Act} {Q : Exit → Act → World → Prop}
theorem event_run {W w1 : World} {v : Value} (hgd : o.guard = none) (hrun : (execOp a.eval o).run P W = .ok (.value v) w1) (h : wpList P ops Q rest (a.put o.dst v) w1) : wpList P ops Q (o :: rest) a W := by
  refine wpList_plain hgd fun K hK => ?_
  unfold Oper.wp
  rw [hrun]
  exact hK _ _ h
variable {α : Type}
end
end Kd
/-! ### 27. Cuts of a row of one's own: 'xs = xs[:n]' stays a row (R_take); 'xs = xs[k:]' is a row that begins inside its block (Kd.Q), append goes on it too -/
section
variable {P : Program}
theorem cut_to (t e : TypeId) (kh : IntKind) {i : TypeInfo} (ht : P.underlying t = some (.slice e)) (hi : P.info? e = some i) (A : Option Addr) (n c : Nat) (j : Int) (h0 : 0 ≤ j) (hm : j ≤ n) (hc : n ≤ c) :
    ∀ W : World, (Instr.slice t (.slice A n c) none (some (.int kh j)) none).run P W = .ok (.slice A j.toNat c) W := by
  intro W
  have hel : P.elem t = e := by simp [Program.elem, ht]
  have hu : P.underlying t = some (.slice (P.elem t)) := by rw [hel]; exact ht
  have ha : (A.map fun x => x.add 0) = A := by cases A <;> simp [Addr.add]
  rw [run_slice_h W t A n c hu kh j h0 (by omega), hel]
  simp [sizeOf, typeInfo, hi, sliced, Result.andThen, ha]
theorem cut_from (t e : TypeId) (kl : IntKind) {i : TypeInfo} (ht : P.underlying t = some (.slice e)) (hi : P.info? e = some i) (size : Nat) (hsz : i.size = size) (A : Option Addr) (n c : Nat) (j : Int) (h0 : 0 ≤ j) (hm : j ≤ n) :
    ∀ W : World, (Instr.slice t (.slice A n c) (some (.int kl j)) none none).run P W = .ok (.slice (if c = j.toNat then A else A.map (·.add (j.toNat * size))) (n - j.toNat) (c - j.toNat)) W := by
  intro W
  have hel : P.elem t = e := by simp [Program.elem, ht]
  have hu : P.underlying t = some (.slice (P.elem t)) := by rw [hel]; exact ht
  rw [run_slice_l W t A n c hu kl j h0 hm, hel]
  simp [sizeOf, typeInfo, hi, hsz, sliced, Result.andThen]
end
/-- A row of one's own that may begin inside its block. -/
def QRow (w : World) (base : Nat) (e : TypeId) (size : Nat) (v : Value) (n : Nat) (xs : List Value) : Prop :=
  xs.length = n * size ∧
  ((n = 0 ∧ ∃ A, v = .slice A 0 0 ∧ ∀ a, A = some a → base ≤ a.block ∧ ∃ cur, w.heap[a.block]? = some (.cells cur e (0, 0))) ∨
   ∃ g off cap cur, v = .slice (some ⟨g, off * size, none⟩) n cap ∧ base ≤ g ∧ w.heap[g]? = some (.cells cur e (0, 0)) ∧ n ≤ cap ∧ off + cap ≤ maxLen ∧ cur.size = (off + cap) * size ∧ (cur.toList.drop (off * size)).take (n * size) = xs)
section
variable {w w1 : World} {base n size : Nat} {e : TypeId} {v : Value} {xs : List Value}
theorem q_of_own (h : w.ownsRow base e size v n xs) : QRow w base e size v n xs := by
  obtain ⟨h1, h2⟩ := h
  refine ⟨h1, ?_⟩
  rcases h2 with ⟨rfl, h0⟩ | ⟨g, cap, cur, rfl, hb, hh, hnc, hcm, hcs, ht⟩
  · exact .inl ⟨h0, none, rfl, fun a ha => by cases ha⟩
  · exact .inr ⟨g, 0, cap, cur, by rw [Nat.zero_mul], hb, hh, hnc, by rw [Nat.zero_add]; exact hcm, by rw [Nat.zero_add]; exact hcs, by rw [Nat.zero_mul, List.drop_zero]; exact ht⟩
end
section
variable {P : Program}
end
/-! ### 28. The kinds' words for cuts: R_take; Q (a row that may begin inside its block) with all of R's movers -/
namespace Kd
def Q {α : Type} (d : Kd α) (e : Nat) (w : World) (base : Nat) (ok : Nat → Prop) (v : Value) (xs : List α) : Prop :=
  (∀ k, v.ownBlock = some k → ok k) ∧ ∃ inner, QRow w base e d.sz v xs.length inner ∧ Reps (d.M w base (fun k => ok k ∧ some k ≠ v.ownBlock)) d.sz xs inner
section
variable {α : Type} {d : Kd α} {e : Nat} {w w1 W : World} {base : Nat} {ok ok' : Nat → Prop} {v : Value} {xs : List α}
theorem Q_of_R (h : d.R e w base ok v xs) : d.Q e w base ok v xs := by
  obtain ⟨h0, inner, ho, hr⟩ := h
  exact ⟨h0, inner, q_of_own ho, hr⟩
theorem Q_nil (d : Kd α) (e : Nat) (w : World) (base : Nat) (ok : Nat → Prop) : d.Q e w base ok (.slice none 0 0) [] := Q_of_R (R_nil d e w base ok)
end
section
variable {P : Program} {ops : Array Oper} {rest : List Oper} {o : Oper} {a : Act} {Q' : Exit → Act → World → Prop} {Kc : Act → World → Prop} {α : Type}
end
end Kd
/-! ### 29. Movers that ask of another row no more than they need: for R and for Q -/
namespace Kd
section
variable {α : Type} {d : Kd α} {e e' : Nat} {w w1 W : World} {base : Nat} {ok : Nat → Prop} {u v : Value} {xs : List α}
end
end Kd
/-! ### 30. Elements written: x[i] = T{..}, x[i].f = v, swaps, in a row of elements of any kind -/
namespace Kd
section
variable {α : Type} {d : Kd α} {e base g n cap : Nat} {ok okp : Nat → Prop} {W : World} {xs : List α}
end
end Kd
/-! ### 31. What came in, put into what is made: 'fixed d w0' (read in w0, whatever happens since), 'or_ a b', 'mix' (a slice that came in, or one that is made) -/
namespace Kd
def fixed {α : Type} (d : Kd α) (w0 : World) : Kd α where
  sz := d.sz
  E := []
  K := fun _ x cs => d.K w0 x cs
  M := fun _ _ _ x cs => d.K w0 x cs
  K_len := d.K_len
  K_one := d.K_one
  K_below := fun _ h => h
  K_of_M := fun h => h
  M_mono := fun _ h => h
  M_bound := fun h => h
  M_move := fun _ h => h
  M_lower := fun _ h => h
def or_ {α : Type} (a b : Kd α) (h : b.sz = a.sz) : Kd α where
  sz := a.sz
  E := a.E ++ b.E
  K := fun w x cs => a.K w x cs ∨ b.K w x cs
  M := fun w base ok x cs => a.M w base ok x cs ∨ b.M w base ok x cs
  K_len := fun hk => hk.elim a.K_len (fun hk => (b.K_len hk).trans h)
  K_one := fun hk => hk.elim a.K_one b.K_one
  K_below := fun hb hk => hk.imp (a.K_below hb) (b.K_below hb)
  K_of_M := fun hk => hk.imp a.K_of_M b.K_of_M
  M_mono := fun hok hk => hk.imp (a.M_mono hok) (b.M_mono hok)
  M_bound := fun hk => hk.imp
    (fun hk => a.M_mono (fun _ ⟨h1, h2, h3, q, hq, hc⟩ => ⟨h1, h2, h3, q, List.mem_append_left _ hq, hc⟩) (a.M_bound hk))
    (fun hk => b.M_mono (fun _ ⟨h1, h2, h3, q, hq, hc⟩ => ⟨h1, h2, h3, q, List.mem_append_right _ hq, hc⟩) (b.M_bound hk))
  M_move := fun hm hk => hk.imp (a.M_move hm) (b.M_move hm)
  M_lower := fun hb hk => hk.imp (a.M_lower hb) (b.M_lower hb)
/-- A slice whose elements are read by d when it came in, and are of kind dm when it is made. -/
def mix {α : Type} (e : Nat) (d dm : Kd α) (w0 : World) : Kd (List α) := or_ (fixed (slice e d) w0) (slice e dm) rfl
section
variable {α : Type} {F : Kd α → Kd α} {sz : Nat} {E : List Nat} {hs : ∀ n, (upto F sz E n).sz = sz} {hE : ∀ n q, q ∈ (upto F sz E n).E → q ∈ E}
end
end Kd
/-! ### 32. A whole row appended, of elements of any kind; copy onto a row of scalars of one's own -/
namespace Kd
theorem reps_append {α : Type} {R : α → List Value → Prop} {size : Nat} {ps qs : List α} {cs ds : List Value} (h : Reps R size ps cs) (h' : Reps R size qs ds) : Reps R size (ps ++ qs) (cs ++ ds) := by
  refine ⟨by rw [List.length_append, List.length_append, h.1, h'.1, Nat.add_mul], fun j p hj => ?_⟩
  rcases Nat.lt_or_ge j ps.length with hlt | hge
  · rw [List.getElem?_append_left hlt] at hj
    have hle : j * size + size ≤ cs.length := by rw [h.1, ← Nat.succ_mul]; exact Nat.mul_le_mul_right _ hlt
    rw [List.drop_append_of_le_length (by omega), List.take_append_of_le_length (by rw [List.length_drop]; omega)]
    exact h.2 j p hj
  · rw [List.getElem?_append_right hge] at hj
    have h2 := h'.2 (j - ps.length) p hj
    have hle : ps.length * size ≤ j * size := Nat.mul_le_mul_right _ hge
    rw [List.drop_append, List.drop_eq_nil_of_le (by rw [h.1]; exact hle), List.nil_append, h.1, ← Nat.sub_mul]
    exact h2
section
variable {P : Program} {ops : Array Oper} {rest : List Oper} {o : Oper} {a : Act} {Q : Exit → Act → World → Prop} {α : Type}
/-- append(v, ys...): Rr is what is known of a read element's cells (d.K W; or k<T>.K w0 for a row that came in), hKM: it may stand as_ made. -/
theorem R_append_rows (d : Kd α) {Rr : α → List Value → Prop} {w0 W : World} (base : Nat) (hgd : o.guard = none) (s x : Operand) (t e : TypeId) (z : Value) (bytes : Nat)
    (ho : o.op = .call { callee := .builtin .append, args := #[s, x], argTypes := #[t, t] })
    (ht : P.underlying t = some (.slice e)) (hinfo : (P.info? e).map (fun i => (i.zero, i.size, i.bytes)) = some (some z, d.sz, bytes)) (hz : z.cells.size = d.sz) (hs0 : 0 < d.sz) (hb0 : 0 < bytes)
    (v : Value) (xs ys : List α) (A : Option Addr) (m c : Nat) (ok okp : Nat → Prop) (hs : a.eval s = v) (hx : a.eval x = .slice A m c)
    (HO : d.R e W base ok v xs) (HR : ReadsRow Rr d.sz W A m ys) (hKM : ∀ x cs, Rr x cs → d.M W base okp x cs) (hokp : ∀ k, okp k → ok k ∧ some k ≠ v.ownBlock) (hfresh : ∀ k, W.heap.size ≤ k → ok k)
    (HB : Below base w0 W) (hbase : base ≤ W.heap.size) (hl : (xs.length + m) * bytes ≤ 140737488355328)
    (h : ∀ v1 w1, d.R e w1 base ok v1 (xs ++ ys) → Below base w0 w1 → W.grownBy w1 v.ownBlock → (v1.ownBlock = v.ownBlock ∨ ∃ b, v1.ownBlock = some b ∧ W.heap.size ≤ b) → wpList P ops Q rest (a.put o.dst v1) w1) :
    wpList P ops Q (o :: rest) a W := by
  obtain ⟨i0, hi, hzz⟩ := Option.map_eq_some_iff.1 hinfo
  simp only [Prod.mk.injEq] at hzz
  obtain ⟨hz0, hz1, hz2⟩ := hzz
  have hm : ys.length = m := HR.1
  have hlen : xs.length + m ≤ 140737488355328 := Nat.le_trans (Nat.le_mul_of_pos_right _ hb0) hl
  obtain ⟨hok, inner, hown, hr⟩ := HO
  have hrun : ∃ v1 w1, (Builtin.append_ #[t, t] o.type #[v, .slice A m c]).run P W = .ok v1 w1 ∧ d.R e w1 base ok v1 (xs ++ ys) ∧ W.grownBy w1 v.ownBlock ∧ (v1.ownBlock = v.ownBlock ∨ ∃ b, v1.ownBlock = some b ∧ W.heap.size ≤ b) := by
    rcases A with _ | ad
    · have h0 : m = 0 := by
        rcases Nat.eq_zero_or_pos m with h0 | h0
        · exact h0
        · obtain ⟨ad, h, _⟩ := HR.2.2 h0
          cases h
      subst h0
      obtain rfl : ys = [] := List.eq_nil_of_length_eq_zero hm
      refine ⟨v, W, ?_, by rw [List.append_nil]; exact ⟨hok, inner, hown, hr⟩, World.grownBy.refl W _, .inl rfl⟩
      rcases hown.2 with ⟨rfl, hn⟩ | ⟨g, cap, cur, rfl, _, _, hnc, _⟩
      · simp [Builtin.append_, run_underlying ht, sizeOf, typeInfo, hi, Builtin.lenOf, Builtin.firstCells]
      · simp [Builtin.append_, run_underlying ht, sizeOf, typeInfo, hi, Builtin.lenOf, Builtin.firstCells, hnc, storeCells]
    · obtain ⟨news, hnr, hnc⟩ := ReadsRow.inner_ HR
      have hnM : Reps (d.M W base okp) d.sz ys news := hnr.imp_ (fun p c hp => hKM p c hp)
      have hone : ∀ u ∈ news, u.oneCell' = true := by
        intro u hu
        obtain ⟨q, hq, rfl⟩ := List.mem_iff_getElem.1 hu
        have hql : q / d.sz < ys.length := by
          rw [Nat.div_lt_iff_lt_mul hs0]
          rw [← hnM.1]
          exact hq
        have hc := hnM.2 (q / d.sz) _ (List.getElem?_eq_getElem hql)
        refine d.K_one (d.K_of_M hc) _ ?_
        rw [List.mem_iff_getElem?]
        refine ⟨q % d.sz, ?_⟩
        rw [List.getElem?_take, if_pos (Nat.mod_lt _ hs0), List.getElem?_drop, Nat.mul_comm, Nat.div_add_mod, List.getElem?_eq_getElem hq]
      obtain ⟨v1, w1, hrun, h2, hg, _, hat⟩ := run_append_own_at (P := P) W base t o.type e i0 z d.sz bytes ht hi hz0 hz1 hz2 hz hs0 v xs.length inner hown ad m c news (by rw [hnM.1, hm]) hnc hone (by simp only [maxLen]; omega) hl hbase
      have hat' : v1.ownBlock = v.ownBlock ∨ ∃ b, v1.ownBlock = some b ∧ W.heap.size ≤ b := by
        rcases hat with hat | hat
        · exact .inl hat
        · exact .inr ⟨_, hat, Nat.le_refl _⟩
      have hne : ∀ k, some k ≠ v.ownBlock → k < W.heap.size → some k ≠ v1.ownBlock := by
        intro k hk hlt
        rcases hat' with hat | ⟨b, hb, hle⟩
        · rw [hat]; exact hk
        · rw [hb]
          intro he
          injection he with he
          omega
      have step : ∀ {q : α} {c : List Value} {o : Nat → Prop}, d.M W base o q c → (∀ k, o k → ok k ∧ some k ≠ v.ownBlock) → d.M w1 base (fun k => ok k ∧ some k ≠ v1.ownBlock) q c := by
        intro q c o hq ho
        have h1 := d.M_move (w1 := w1) (fun k hk => hg.block k hk.2.2.1 (ho k hk.1).2) (d.M_bound hq)
        exact d.M_mono (fun k hk => ⟨(ho k hk.1).1, hne k (ho k hk.1).2 hk.2.2.1⟩) h1
      refine ⟨v1, w1, hrun, ⟨fun k hk => ?_, inner ++ news, by rw [List.length_append, hm]; exact h2, reps_append (hr.imp_ (fun _ _ hq => step hq (fun _ hk => hk))) (hnM.imp_ (fun _ _ hq => step hq hokp))⟩, hg, hat'⟩
      rcases hat' with hat | ⟨b, hb, hle⟩
      · exact hok k (hat ▸ hk)
      · rw [hb] at hk
        injection hk with hk
        exact hfresh k (by omega)
  obtain ⟨v1, w1, hr1, h1, hg, hat⟩ := hrun
  refine wpList_plain hgd fun K hK => ?_
  unfold Oper.wp execOp
  simp only [ho, resolve, invoke, builtin, Sem.run_bind, Sem.run_pure, Result.andThen_ok, List.map_toArray, List.map_cons, List.map_nil, hs, hx, hr1]
  exact hK _ _ (h v1 w1 h1 (HB.grown hg hbase (own_base hown)) hg hat)
end
end Kd
/-! ### 33. A store into a row of one's own, as_ an event: no go_simp -/
namespace Kd
section
variable {P : Program} {ops : Array Oper} {rest : List Oper} {o : Oper} {a : Act} {Q : Exit → Act → World → Prop} {α : Type}
end
end Kd
/-! ### 34. Cuts that are only read, of any row -/
theorem add_add (a : Addr) (i j : Nat) : (a.add i).add j = a.add (i + j) := by
  unfold Addr.add
  by_cases h1 : i = 0 <;> by_cases h2 : j = 0 <;> simp [h1, h2, Nat.add_assoc]
namespace Kd
section
variable {α : Type} {k : Kd α} {w : World} {A : Option Addr} {xs : List α} {m c : Nat}
theorem C_take (h : k.C w A xs.length xs) (hm : m ≤ xs.length) : k.C w A (xs.take m).length (xs.take m) := by
  have hl : (xs.take m).length = m := by rw [List.length_take]; omega
  refine ⟨rfl, by rw [hl]; have := h.2.1; omega, fun hp => ?_⟩
  obtain ⟨ad, e, hc⟩ := h.2.2 (by omega)
  refine ⟨ad, e, fun j p hj => hc j p ?_⟩
  rw [List.getElem?_take] at hj
  split at hj
  · exact hj
  · cases hj
theorem C_drop (h : k.C w A xs.length xs) (hm : m ≤ xs.length) (hc : xs.length ≤ c) : k.C w (if c = m then A else A.map (·.add (m * k.sz))) (xs.drop m).length (xs.drop m) := by
  have hl : (xs.drop m).length = xs.length - m := List.length_drop
  refine ⟨rfl, by rw [hl]; have := h.2.1; omega, fun hp => ?_⟩
  rw [hl] at hp
  obtain ⟨ad, rfl, hcell⟩ := h.2.2 (by omega)
  rw [if_neg (by omega)]
  refine ⟨ad.add (m * k.sz), rfl, fun j p hj => ?_⟩
  rw [List.getElem?_drop] at hj
  obtain ⟨cs, h1, h2, h3⟩ := hcell (m + j) p hj
  refine ⟨cs, h1, h2, fun i u hu => ?_⟩
  rw [add_add, show m * k.sz + (j * k.sz + i) = (m + j) * k.sz + i by rw [Nat.add_mul]; omega]
  exact h3 i u hu
theorem C_mid {lo hi : Nat} (h : k.C w A xs.length xs) (h1 : lo ≤ hi) (h2 : hi ≤ xs.length) (hc : xs.length ≤ c) : k.C w (if c = lo then A else A.map (·.add (lo * k.sz))) ((xs.take hi).drop lo).length ((xs.take hi).drop lo) := by
  have hl : (xs.take hi).length = hi := by rw [List.length_take]; omega
  exact C_drop (C_take h h2) (by omega) (by omega)
end
end Kd
section
variable {P : Program}
theorem cut_mid (t e : TypeId) (kl kh : IntKind) {i : TypeInfo} (ht : P.underlying t = some (.slice e)) (hi : P.info? e = some i) (size : Nat) (hsz : i.size = size) (A : Option Addr) (n c : Nat) (lo hi' : Int) (h0 : 0 ≤ lo) (h1 : lo ≤ hi') (h2 : hi' ≤ n) (hc : n ≤ c) :
    ∀ W : World, (Instr.slice t (.slice A n c) (some (.int kl lo)) (some (.int kh hi')) none).run P W = .ok (.slice (if c = lo.toNat then A else A.map (·.add (lo.toNat * size))) (hi'.toNat - lo.toNat) (c - lo.toNat)) W := by
  intro W
  have hel : P.elem t = e := by simp [Program.elem, ht]
  have hu : P.underlying t = some (.slice (P.elem t)) := by rw [hel]; exact ht
  rw [run_slice_lh W t A n c hu kl kh lo hi' h0 h1 (by omega), hel]
  simp [sizeOf, typeInfo, hi, hsz, sliced, Result.andThen]
end
/-! ### 35. string(b), b read (a cut too) -/
/-! ### 6. What the printer adds -/
theorem below_size {w W : World} (h : Below w.heap.size w W) : w.heap.size ≤ W.heap.size := h.size
theorem below_step {w W w2 : World} (h : Below w.heap.size w W) (k : Below W.heap.size W w2) : Below w.heap.size w w2 := below_then h h.size k
theorem ReadsInt.nil (W : World) (k : IntKind) : ReadsInt W k none ([] : List Int).length [] := ⟨rfl, by simp, fun h => absurd h (Nat.lt_irrefl 0)⟩
theorem ReadsInt.drewN {W : World} {k : IntKind} {A : Option Addr} {n : Nat} {xs : List Int} (h : ReadsInt W k A n xs) (m : Nat) : ReadsInt (W.drewN m) k A n xs := h
theorem below_set {w W : World} {g j : Nat} {v : Value} (h : Below w.heap.size w W) (hg : w.heap.size ≤ g) : Below w.heap.size w (W.setCell ⟨g, j, none⟩ v) := h.setCell hg _
theorem ReadsOf.nil {α : Type} (enc : α → Value) (d : α) (W : World) : ReadsOf enc d W none ([] : List α).length [] := ⟨rfl, by simp, fun h => absurd h (Nat.lt_irrefl 0)⟩
theorem ReadsOf.drewN {α : Type} {enc : α → Value} {d : α} {W : World} {A : Option Addr} {n : Nat} {xs : List α} (h : ReadsOf enc d W A n xs) (m : Nat) : ReadsOf enc d (W.drewN m) A n xs := h
theorem blk_put {w : World} {g : Nat} {t : TypeId} {cs cs' : Array Value} (h : w.heap[g]? = some (.cells cs t (0, 0))) (i : Nat) (u : Value) (e : cs.setIfInBounds i u = cs') : (w.setCell ⟨g, i, none⟩ u).heap[g]? = some (.cells cs' t (0, 0)) := e ▸ blk_set h i u
theorem below_drew1 {base : Nat} {w W : World} (h : Below base w W) : Below base w W.drew := h.drew
namespace Kd
section
variable {α β : Type} {d : Kd α} {d' : Kd β} {e e' base base' n : Nat} {ok ok' : Nat → Prop} {w W w1 W1 : World} {v u : Value} {xs : List α} {ys : List β} {A : Option Addr} {c : Nat}
end
section
variable {α : Type} {enc : α → Value} {h1 : ∀ x, (enc x).oneCell' = true} {w W : World} {A : Option Addr} {n g : Nat} {xs : List α}
end
end Kd
namespace Kd
section
variable {α : Type} {d : Kd α} {e base g : Nat} {ok : Nat → Prop} {w w1 : World} {v : Value} {xs : List α} {o : Obj}
end
end Kd
section
variable {P : Program} {ops : Array Oper} {rest : List Oper} {o : Oper} {a : Act} {Q : Exit → Act → World → Prop}
theorem box_event {W : World} (hgd : o.guard = none) {N : Tmp} (_hd : o.dst = some N) {cs : Array Value} {t : TypeId}
    (hrun : (execOp a.eval o).run P W = .ok (.value (.pointer (some ⟨W.heap.size, 0, none⟩))) (W.alloc (.cells cs t (0, 0))))
    (h : ∀ g, g = W.heap.size → ∀ w1, w1.heap[g]? = some (.cells cs t (0, 0)) → Below W.heap.size W w1 → wpList P ops Q rest (a.put o.dst (.pointer (some ⟨g, 0, none⟩))) w1) : wpList P ops Q (o :: rest) a W :=
  Kd.event_run hgd hrun (h _ rfl _ (blk_new W _) (below_alloc (Below.refl _ _) _))
end
namespace Kd
section
variable {α : Type} {enc : α → Value} {h1 : ∀ x, (enc x).oneCell' = true} {e base g n cap : Nat} {ok : Nat → Prop} {W : World} {xs : List α}
end
end Kd
section
variable {P : Program} {ops : Array Oper} {rest : List Oper} {o : Oper} {a : Act} {Q : Exit → Act → World → Prop}
end
namespace Kd
section
variable {α : Type} {enc : α → Value} {h1 : ∀ x, (enc x).oneCell' = true} {e base g n cap : Nat} {ok : Nat → Prop} {W : World} {xs : List α}
end
end Kd
section
variable {P : Program} {ops : Array Oper} {rest : List Oper} {o : Oper} {a : Act} {Q : Exit → Act → World → Prop} {W : World}
theorem gate_dst {N : Tmp} (_hN : o.dst = some N) (h : wpList P ops Q (o :: rest) a W) : wpList P ops Q (o :: rest) a W := h
end
/-! ### 36. Events as_ one step of a region that draws (for one_, two_, three_) -/
section
variable {P : Program} {ops : Array Oper} {o : Oper} {a : Act} {Q : Exit → Act → World → Prop} {Kc : Act → World → Prop}
namespace Kd
variable {α : Type}
end Kd
end
/-! ### 37. Results of any shape -/
inductive Vals (P : Program) (tmps : Array Value) (w : World) : List ResultVar → List Value → Prop where
  | nil : Vals P tmps w [] []
  | tmp {u : Tmp} {rs : List ResultVar} {vs : List Value} (h : Vals P tmps w rs vs) : Vals P tmps w (.tmp u :: rs) (tmps.getD u undef :: vs)
  | cell {p : Tmp} {ty : TypeId} {rs : List ResultVar} {vs : List Value} (g : Nat) (t : TypeId) (cs : Array Value) (fr : Nat × Nat) (d : TypeDesc)
      (hp : tmps.getD p undef = .pointer (some ⟨g, 0, none⟩)) (hg : w.heap[g]? = some (.cells cs t fr))
      (hu : P.underlying ty = some d) (hd : (match d with | .struct _ | .array _ _ => true | _ => false) = true) (hi : (P.info? ty).map (·.size) = some cs.size)
      (h : Vals P tmps w rs vs) : Vals P tmps w (.cell p ty :: rs) (.agg cs :: vs)
section
variable {P : Program} {tmps : Array Value} {w : World}
end
/-! ### 38. 'out = append(out[:k], out[k+1:]...)': an element taken out of a row of one's own, in place -/
namespace Kd
section
variable {P : Program} {α : Type}
end
section
variable {P : Program} {ops : Array Oper} {rest : List Oper} {o : Oper} {a : Act} {Q : Exit → Act → World → Prop} {Kc : Act → World → Prop} {α : Type}
end
end Kd

end Go.Proofs.YtmbnjgnmblgjoaaW.PrintWords
end

-- Opens
section
/- What an argument reads as_: of any type that is built of numbers, bools, slices and structs; and what its sizes are. -/







namespace Go.Proofs.Ytmbnjgnmblgjoaa.Open
open Go.RowKit Go.ChangeShapes Go.WideShapes Go.Proofs.YtmbnjgnmblgjoaaW.PrintWords
set_option linter.unusedVariables false

/-- Whatever reads at type t is of the kind K, fits (wf), and is no greater than its bulk. -/
def Opens {α : Type} (P : Program) (t : TypeId) (K : Kd α) (wf : α → Prop) (bk : α → Nat) : Prop :=
  ∀ {H : Type} (enc : TypeId × Value → H) (w : World) (fuel : Nat) (cs : List Value) (d : DataW H) (ps : List MemPlace), DataW.trod enc P w 0 (fun _ => true) true fuel t cs = some (d, ps) →
    (DataW.weights P t d).all (· ≤ reachBytes) = true → ∃ x, K.K w x cs ∧ wf x ∧ bk x ≤ Rows.uptoBulk d

theorem opens_int {P : Program} {t : TypeId} {k : IntKind} (ht : P.underlying t = some (.int k)) : Opens P t (Kd.int k) (fun n => (Lit.int k n).wf = true) (fun _ => 1) := by
  intro H enc w fuel cs d ps h _
  obtain ⟨n, rfl, hd, hw⟩ := DataW.trod_int ht h
  obtain ⟨rfl, _⟩ := Prod.mk.inj hd
  exact ⟨n, rfl, hw, Nat.le_refl _⟩

def sum1 {α : Type} (bk : α → Nat) : List α → Nat
  | [] => 0
  | x :: l => bk x + sum1 bk l
theorem weights_in {H : Type} {P : Program} {e : TypeId} : ∀ {l : List (DataW H)} {d : DataW H}, d ∈ l → ∀ n ∈ d.weights P e, n ∈ DataW.weightsAll P e l
  | x :: l, d, h, n, hn => by
    rw [DataW.weightsAll, List.mem_append]
    rcases List.mem_cons.1 h with rfl | h
    · exact .inl hn
    · exact .inr (weights_in h n hn)

theorem list_of {α : Type} {n : Nat} {p : Nat → α → Prop} (h : ∀ i, i < n → ∃ x, p i x) : ∃ xs : List α, xs.length = n ∧ ∀ i x, xs[i]? = some x → p i x := by
  induction n with
  | zero => exact ⟨[], rfl, fun i x hx => by simp at hx⟩
  | succ n ih =>
    obtain ⟨xs, hl, hx⟩ := ih (fun i hi => h i (by omega))
    obtain ⟨x, hp⟩ := h n (by omega)
    refine ⟨xs ++ [x], by simp [hl], fun i y hy => ?_⟩
    rcases Nat.lt_or_ge i n with hi | hi
    · rw [List.getElem?_append_left (by omega)] at hy
      exact hx i y hy
    · have hlt := (List.getElem?_eq_some_iff.1 hy).1
      rw [List.length_append, hl, List.length_singleton] at hlt
      have hin : i = n := by omega
      subst hin
      rw [List.getElem?_append_right (by omega), hl] at hy
      simp at hy
      subst hy
      exact hp
theorem sum_le {α : Type} {H : Type} {bk : α → Nat} {D : Nat → DataW H} : ∀ {xs : List α} (k : Nat), (∀ i x, xs[i]? = some x → bk x ≤ Rows.uptoBulk (D (k + i))) → sum1 bk xs ≤ Rows.uptoBulkAll ((List.range xs.length).map fun i => D (k + i))
  | [], k, h => by simp [sum1]
  | x :: l, k, h => by
    have h0 := h 0 x rfl
    have h1 := sum_le (xs := l) (D := D) (bk := bk) (k + 1) (fun i y hy => by have := h (i + 1) y (by simpa using hy); rwa [show k + (i + 1) = k + 1 + i by omega] at this)
    rw [List.length_cons, List.range_succ_eq_map, List.map_cons, List.map_map, Rows.uptoBulkAll, sum1]
    have e : (List.range l.length).map ((fun i => D (k + i)) ∘ Nat.succ) = (List.range l.length).map fun i => D (k + 1 + i) := List.map_congr_left fun i _ => by simp only [Function.comp_apply, Nat.succ_eq_add_one]; congr 1; omega
    rw [e]
    simp only [Nat.add_zero] at h0 ⊢
    omega

theorem opens_slice {α : Type} {P : Program} {t e : TypeId} {K : Kd α} {wf : α → Prop} {bk : α → Nat} (ht : P.underlying t = some (.slice e)) (hc : P.cellsOf e = K.sz) {B : Nat} (hB : P.bytesOf e = B) (h : Opens P e K wf bk) (q : Nat) :
    Opens P t (Kd.slice q K) (fun xs => xs.length * B ≤ 140737488351232 ∧ ∀ x ∈ xs, wf x) (fun xs => sum1 bk xs + 1) := by
  intro H enc w fuel cs d ps hd hw
  rcases Go.Deep.open_slice ht hd with ⟨rfl, hx⟩ | ⟨a, len, cap, m, n, D, Pl, rfl, hb, hl, hm, hmm, hx, hel⟩
  · obtain ⟨rfl, _⟩ := Prod.mk.inj hx
    exact ⟨[], ⟨none, 0, rfl, Nat.le_refl _, rfl, by simp, fun h0 => by simp at h0⟩, ⟨by simp, fun x hx => by simp at hx⟩, by simp [Rows.uptoBulk, sum1]⟩
  · simp only [if_true] at hmm
    subst hmm
    obtain ⟨rfl, _⟩ := Prod.mk.inj hx
    have hw1 : ∀ x ∈ DataW.weights P t (DataW.slice ((List.range len).map D) ((List.range (m - len)).map fun j => D (len + j))), x ≤ reachBytes := fun x hx => by
      have := List.all_eq_true.1 hw x hx
      simpa using this
    have hb0 : (len + (m - len)) * B ≤ reachBytes := by
      have := hw1 _ (by rw [DataW.weights, ht]; exact List.mem_cons_self)
      simpa [hB] using this
    obtain ⟨xs, hxl, hxs⟩ := list_of (n := len) (p := fun i x => (∃ c, c.length = K.sz ∧ K.K w x c ∧ ∀ j u, c[j]? = some u → w.cell? (a.add (i * K.sz + j)) = some u) ∧ wf x ∧ bk x ≤ Rows.uptoBulk (D i)) (fun i hi => by
      obtain ⟨c, h1, h2⟩ := hel i (by omega)
      obtain ⟨_, h3, h4⟩ := World.cells?_some h1
      have hwi : (DataW.weights P e (D i)).all (· ≤ reachBytes) = true := by
        rw [List.all_eq_true]
        intro x hx
        have := hw1 x (by rw [DataW.weights, ht]; refine List.mem_cons_of_mem _ (List.mem_append_left _ (weights_in (d := D i) ?_ x hx)); exact List.mem_map.2 ⟨i, List.mem_range.2 hi, rfl⟩)
        simpa using this
      obtain ⟨x, k1, k2, k3⟩ := h enc w n c (D i) (Pl i) h2 hwi
      refine ⟨x, ⟨c, by rw [h3, hc], k1, fun j u hj => ?_⟩, k2, k3⟩
      have hjl : j < P.cellsOf e := by have := (List.getElem?_eq_some_iff.1 hj).1; omega
      have := h4 j hjl
      rw [Go.Deep.add_add, hc] at this
      rw [this, hj])
    have hml : m ≤ 9223372036854775807 := by simpa [maxLen] using hm
    refine ⟨xs, ⟨some a, m, by rw [hxl], by omega, rfl, by omega, fun _ => ⟨a, rfl, fun j x hj => (hxs j x hj).1⟩⟩, ⟨?_, fun x hx => ?_⟩, ?_⟩
    · rw [hxl]
      have h1 : len * B ≤ (len + (m - len)) * B := Nat.mul_le_mul_right _ (by omega)
      have h2 : reachBytes = 140737488351232 := rfl
      omega
    · obtain ⟨j, hj, rfl⟩ := List.getElem_of_mem hx
      exact (hxs j _ (List.getElem?_eq_getElem hj)).2.1
    · have := sum_le (D := D) (bk := bk) (xs := xs) 0 (fun i x hx => by rw [Nat.zero_add]; exact (hxs i x hx).2.2)
      rw [hxl] at this
      simp only [Nat.zero_add] at this
      simp only [Rows.uptoBulk]
      have e : (List.map (fun i => D i) (List.range len)) = List.map D (List.range len) := rfl
      rw [e] at this
      omega

/-- The fields of a struct from offset o on. -/
def OpensF {α : Type} (P : Program) (o : Nat) (fs : List Field) (K : Kd α) (wf : α → Prop) (bk : α → Nat) : Prop :=
  ∀ {H : Type} (enc : TypeId × Value → H) (w : World) (n : Nat) (cs : List Value) (ys : List (DataW H × List MemPlace)), ys.length = fs.length →
    (∀ (i : Nat) (f : Field), fs[i]? = some f → DataW.trod enc P w 0 (fun _ => true) true n f.type ((cs.drop f.offset).take (P.cellsOf f.type)) = ys[i]?) →
    (DataW.weightsEach P (fs.map (·.type)) (ys.map (·.1))).all (· ≤ reachBytes) = true → ∃ x, K.K w x ((cs.drop o).take K.sz) ∧ wf x ∧ bk x ≤ Rows.uptoBulkAll (ys.map (·.1))
theorem opensF_one {α : Type} {P : Program} {o : Nat} {f : Field} {K : Kd α} {wf : α → Prop} {bk : α → Nat} (ho : f.offset = o) (hc : P.cellsOf f.type = K.sz) (h : Opens P f.type K wf bk) : OpensF P o [f] K wf bk := by
  intro H enc w n cs ys hl hy hw
  match ys, hl with
  | [y], _ =>
    have h0 := hy 0 f rfl
    rw [ho, hc] at h0
    simp only [List.map_cons, List.map_nil, DataW.weightsEach, List.append_nil] at hw
    obtain ⟨x, k1, k2, k3⟩ := h enc w n _ y.1 y.2 h0 hw
    exact ⟨x, k1, k2, by simpa [Rows.uptoBulkAll] using k3⟩
theorem opensF_cons {α β : Type} {P : Program} {o : Nat} {f : Field} {fs : List Field} {K : Kd α} {K' : Kd β} {wf : α → Prop} {bk : α → Nat} {wf' : β → Prop} {bk' : β → Nat} (ho : f.offset = o) (hc : P.cellsOf f.type = K.sz) (h : Opens P f.type K wf bk)
    (h' : OpensF P (o + K.sz) fs K' wf' bk') : OpensF P o (f :: fs) (Kd.pair K K') (fun x => wf x.1 ∧ wf' x.2) (fun x => bk x.1 + bk' x.2) := by
  intro H enc w n cs ys hl hy hw
  match ys, hl with
  | y :: ys, hl =>
    have h0 := hy 0 f rfl
    rw [ho, hc] at h0
    simp only [List.map_cons, DataW.weightsEach, List.all_append, Bool.and_eq_true] at hw
    obtain ⟨x, k1, k2, k3⟩ := h enc w n _ y.1 y.2 h0 hw.1
    obtain ⟨x', j1, j2, j3⟩ := h' enc w n cs ys (by simpa using hl) (fun i g hg => by have := hy (i + 1) g (by simpa using hg); simpa using this) hw.2
    refine ⟨(x, x'), ⟨_, _, ?_, k1, j1⟩, ⟨k2, j2⟩, ?_⟩
    · show List.take (K.sz + K'.sz) (List.drop o cs) = _
      rw [List.take_add, List.drop_drop]
    · simp only [List.map_cons, Rows.uptoBulkAll]; omega
theorem opens_struct {α : Type} {P : Program} {t : TypeId} {fs : Array Field} {l : List Field} {K : Kd α} {wf : α → Prop} {bk : α → Nat} (ht : P.underlying t = some (.struct fs)) (hl : fs.toList = l) (hc : P.cellsOf t = K.sz) (h : OpensF P 0 l K wf bk) : Opens P t K wf (fun x => bk x + 1) := by
  subst hl
  intro H enc w fuel cs d ps hd hw
  obtain ⟨xs, n, rfl, hx, hcl, hxl, hf⟩ := DataW.trod_struct ht hd
  obtain ⟨rfl, _⟩ := Prod.mk.inj hx
  rw [DataW.weights, ht] at hw
  obtain ⟨x, k1, k2, k3⟩ := h enc w n cs xs (by simpa using hxl) (fun i f hi => hf i f (by simpa using hi)) hw
  refine ⟨x, ?_, k2, by simp only [Rows.uptoBulk]; omega⟩
  rw [List.drop_zero, ← hc, ← hcl, List.take_length] at k1
  exact k1
theorem opens_iso {α β : Type} {P : Program} {t : TypeId} {K : Kd α} {wf : α → Prop} {bk : α → Nat} (f : β → α) (g : α → β) (hfg : ∀ a, f (g a) = a) (h : Opens P t K wf bk) : Opens P t (Kd.iso K f) (fun x => wf (f x)) (fun x => bk (f x)) := by
  intro H enc w fuel cs d ps hd hw
  obtain ⟨x, k1, k2, k3⟩ := h enc w fuel cs d ps hd hw
  exact ⟨g x, by show K.K w (f (g x)) cs; rw [hfg]; exact k1, by show wf (f (g x)); rw [hfg]; exact k2, by show bk (f (g x)) ≤ _; rw [hfg]; exact k3⟩
/-- .. as_ an argument. -/
theorem Opens.arg {α : Type} {P : Program} {t : TypeId} {K : Kd α} {wf : α → Prop} {bk : α → Nat} (h : Opens P t K wf bk) {H : Type} {enc : TypeId × Value → H} {w : World} {v : Value} {d : DataW H} {ps : List MemPlace} {ts : List TypeId} {ds : List (DataW H)} {j : Nat}
    (hsz : (DataW.weightsEach P ts ds).all (· ≤ reachBytes) = true) (ht : ts[j]? = some t) (hd : ds[j]? = some d) (hv : DataW.Trod enc P w 0 (fun _ => true) true t v d ps) : ∃ x, K.K w x v.cells.toList ∧ wf x ∧ bk x ≤ Rows.uptoBulk d := by
  obtain ⟨fuel, hf⟩ := hv
  refine h enc w fuel _ d ps hf ?_
  rw [List.all_eq_true]
  intro n hn
  exact List.all_eq_true.1 hsz n (DataW.weights_mem_each ht hd n hn)
theorem Opens.slice_arg {α : Type} {P : Program} {t q : TypeId} {K : Kd α} {wf : List α → Prop} {bk : List α → Nat} (h : Opens P t (Kd.slice q K) wf bk) {H : Type} {enc : TypeId × Value → H} {w : World} {A : Option Addr} {l c : Nat} {d : DataW H} {ps : List MemPlace} {ts : List TypeId} {ds : List (DataW H)} {j : Nat}
    (hsz : (DataW.weightsEach P ts ds).all (· ≤ reachBytes) = true) (ht : ts[j]? = some t) (hd : ds[j]? = some d) (hv : DataW.Trod enc P w 0 (fun _ => true) true t (.slice A l c) d ps) : ∃ xs, xs.length = l ∧ l ≤ c ∧ K.C w A xs.length xs ∧ wf xs ∧ bk xs ≤ Rows.uptoBulk d := by
  obtain ⟨x, k1, k2, k3⟩ := h.arg hsz ht hd hv
  obtain ⟨A', c', e, hc, hr⟩ := k1
  simp [Value.cells] at e
  obtain ⟨rfl, rfl, rfl⟩ := e
  exact ⟨x, rfl, hc, hr, k2, k3⟩

end Go.Proofs.Ytmbnjgnmblgjoaa.Open
end

-- OpensBytes
section
/- What rows of bytes, rows of such rows, rows of whole numbers read as. -/

namespace Go.Proofs.Ytmbnjgnmblgjoaa.Open
open Go.RowKit Go.ChangeShapes Go.WideShapes Go.Proofs.YtmbnjgnmblgjoaaW.PrintWords
theorem sum1_const {α : Type} : ∀ xs : List α, sum1 (fun _ => 1) xs = xs.length
  | [] => rfl
  | x :: l => by rw [sum1, sum1_const l, List.length_cons, Nat.add_comm]
end Go.Proofs.Ytmbnjgnmblgjoaa.Open
end

-- Range
section
/- A range over a function whose body always goes on, where the function itself makes steps of a kind that is told (it writes a captured variable of its own, or makes memory) between two rounds: a law of the walk, over any program. -/










namespace Go.Proofs.Ytmbnjgnmblgjoaa.Man
open Go.RowKit
set_option linter.unusedVariables false
set_option linter.unusedSimpArgs false

/-- The function value g (with what it captured) calls yield on some xs with 'S xs', one behind the other; between its calls it makes steps of the kind 'Mv' alone; a round that goes on keeps 'Kp'. -/
def SeqAll {α : Type} (F : Fence) (n : Nat) (P : Program) (g : Nat) (lb : Array Value) (encs : α → Array Value) (Mv : World → World → Prop) (Kp : World → World → Prop) (S : List α → Prop) (N : List α → Prop) (w : World) : Prop :=
  ∀ (l : Nat) (J : List α → World → Prop) (W : World), Below w.heap.size w W → (∀ s A B, J s A → Mv A B → J s B) →
    (∀ pre x W1, J pre W1 → N (pre ++ [x]) → YieldAt F (n - 1) P l (encs x) W1 fun e W' => e = .returned (.bool true) ∧ J (pre ++ [x]) W' ∧ Kp W1 W') →
    J [] W →
    CallsIn F n P g (#[.func (.yield l) #[] #[]] ++ lb) W fun e W' => (∃ v, e = .returned v) ∧ ∃ xs, S xs ∧ J xs W'

variable {F : Fence} {n : Nat} {P : Program}

/-- What the body of a round leaves: it goes on, and keeps what the record wants. -/
def goesOn {α : Type} (B : Nat) (Kp : World → World → Prop) (I : List α → World → Prop) (xs : List α) (W : World) : Exit → Act → World → Prop
  | .normal, _, W' => KeepsFrom B W W' ∧ Kp W W' ∧ I xs W'
  | _, _, _ => False

theorem wpIn_rangeAll {α : Type} {g : Operand} {ps : Array Tmp} {assign body : Code} {Q : Exit → Act → World → Prop} {a : Act} {w : World}
    (hro : F.round = none) (h1 : 1 ≤ n) {gf : Nat} {lb : Array Value} (hg : a.eval g = .func (.func gf) #[] lb) (hFg : F.fn gf) (eg : ∀ args w, (callFunc gf args).run P w = .ok (.enter gf args) w)
    {encs : α → Array Value} {Mv Kp : World → World → Prop} {S : List α → Prop} {N : List α → Prop} (hseq : SeqAll F (n - 1) P gf lb encs Mv Kp S N w)
    (hMv : ∀ (A B : World) (k : Nat) (o : Obj), Mv A B → w.heap.size ≤ k → A.heap[k]? = some o → B.heap[k]? = some o)
    (hKt : ∀ {A B C : World}, Kp A B → Kp B C → Kp A C) (hKb : ∀ (W : World) (l : Nat) (o o' : Obj), w.heap.size ≤ l → W.heap[l]? = some o → o.isCells = false → Kp W (W.putObj l o')) (hps : ∀ x, (encs x).size = ps.size)
    (I : List α → World → Prop) (hI : OwnFrom w.heap.size I) (hIr : ∀ s A B, I s A → Mv A B → I s B) (h0 : I [] w) (a₁ : α → Act)
    (hassign : ∀ (l : Nat) (x : α) (W : World) (K : Act → World → Prop), K (a₁ x) W →
      assign.wpIn (F.inRound l) (n - 1 - 1) P (Exit.then K (fun _ _ _ => False)) { tmps := (ps.zip (encs x)).foldl (fun t (p, v) => t.setIfInBounds p v) a.tmps, defers := [] } W)
    (hbody : ∀ (l : Nat) (pre : List α) (x : α) (W : World), I pre W → N (pre ++ [x]) → body.wpIn (F.inRound l) (n - 1 - 1) P (goesOn w.heap.size Kp I (pre ++ [x]) W) (a₁ x) W)
    (hdone : ∀ (D : Nat) (xs : List α) (W : World), w.heap.size ≤ D → S xs → I xs W → W.heap[D]? = some (.deferred (some [])) → Q .normal { a with defers := { target := .collected D, args := #[] } :: a.defers } W) :
    (Code.rangeFunc g ps assign body).wpIn F n P Q a w := by
  refine wpIn_rangeFunc ?_
  intro fn hfn
  rw [hro]
  obtain ⟨rec, hrec⟩ : ∃ rec : LoopState → Option Code → Loop, rec = fun st pe => { state := st, pending := pe, fn, tmps := a.tmps, params := ps, assign, body, defers := w.heap.size } := ⟨_, rfl⟩
  obtain ⟨W1, hW1⟩ : ∃ W1, (w.alloc (.deferred (some []))).alloc (.loop (rec .ready none)) = W1 := ⟨_, rfl⟩
  have hL1 : W1.heap[w.heap.size + 1]? = some (.loop (rec .ready none)) := by
    rw [← hW1]; have := World.alloc_heap_new (w.alloc (.deferred (some []))) (.loop (rec .ready none)); rwa [World.size_alloc] at this
  have hK1 : W1.heap[w.heap.size]? = some (.deferred (some [])) := by
    rw [← hW1]; exact (Below.heap_alloc _ _ _ (by simp)).trans (World.alloc_heap_new w _)
  have hI1 : I [] W1 := by rw [← hW1]; exact hI.alloc _ (hI.alloc _ h0)
  have hb1 : Below w.heap.size w W1 := by
    rw [← hW1]; exact ((Below.refl _ w).alloc (Nat.le_refl _) _).alloc (by simp) _
  refine ⟨w.heap.size + 1, [{ target := .collected w.heap.size, args := #[] }], W1, { target := .fn (.func gf) lb, args := #[.func (.yield (w.heap.size + 1)) #[] #[]] }, W1, gf,
    #[.func (.yield (w.heap.size + 1)) #[] #[]] ++ lb, W1, ?_, ?_, ?_, ?_, fun _ => h1, ?_⟩
  · rw [← hW1, hrec]; exact run_enterLoop_outer _ _ _ _ _
  · simp only [resolve, hg]
    simp [go_sem]
  · intro f' hf'; simp [Target.leads] at hf'; subst hf'; exact hFg
  · simp [invoke, go_sem, eg]
  · refine (hseq (w.heap.size + 1)
      (fun pre W => I pre W ∧ W.heap[w.heap.size + 1]? = some (.loop (rec .ready none)) ∧ W.heap[w.heap.size]? = some (.deferred (some [])))
      W1 hb1
      (fun s A B hs hg' => ⟨hIr s A B hs.1 hg', hMv _ _ _ _ hg' (by omega) hs.2.1, hMv _ _ _ _ hg' (Nat.le_refl _) hs.2.2⟩)
      ?_ ⟨hI1, hL1, hK1⟩).mono ?_
    · rintro pre x W ⟨hi, hl, hk⟩ hlen
      have hlt : w.heap.size + 1 < W.heap.size := (Array.getElem?_eq_some_iff.1 hl).1
      have hy := run_yield (P := P) (args := encs x) hl (by rw [hrec]; exact hps x)
      rw [hrec] at hy
      refine ⟨fn, _, assign, body, hy, roundIn_of_wpIn hfn (hassign _ x W _ ⟨_, run_beginRound hl (by rw [hrec]), ?_⟩)⟩
      have hl2 : (W.putObj (w.heap.size + 1) (.loop { rec .ready none with state := .busy })).heap[w.heap.size + 1]? = some (.loop { rec .ready none with state := .busy }) := World.putObj_heap_same hlt
      have hk2 : (W.putObj (w.heap.size + 1) (.loop { rec .ready none with state := .busy })).heap[w.heap.size]? = some (.deferred (some [])) := (World.putObj_heap_other (by omega)).trans hk
      have hw2 : Kp W (W.putObj (w.heap.size + 1) (.loop { rec .ready none with state := .busy })) := hKb _ _ _ _ (by omega) hl rfl
      refine wpIn_mono (hbody _ pre x _ (hI.putObj _ hi (by omega) hl rfl) hlen) ?_
      rintro e a3 W3 hp
      cases e with
      | normal =>
        obtain ⟨hk3, hkp3, hi3⟩ := hp
        have hl3 := hk3.same _ _ (by omega) hl2 rfl
        have hr := run_endRound (P := P) none hl3
        rw [hrec] at hl3 hr ⊢
        exact ⟨_, _, hr, rfl, ⟨hI.putObj _ hi3 (by omega) hl3 rfl, World.putObj_heap_same (Array.getElem?_eq_some_iff.1 hl3).1, (World.putObj_heap_other (by omega)).trans (hk3.same _ _ (Nat.le_refl _) hk2 rfl)⟩,
          hKt (hKt (by rw [hrec] at hw2; exact hw2) (by rw [hrec] at hkp3; exact hkp3)) (hKb _ _ _ _ (by omega) hl3 rfl)⟩
      | ret => exact hp.elim
      | exit id => exact hp.elim
      | goto t => exact hp.elim
      | panic ch => exact hp.elim
      | outgrown => exact hp.elim
    · rintro e W2 ⟨⟨v, rfl⟩, ⟨xs, hS, hi, hl, hk⟩⟩
      exact ⟨none, _, by have := run_endLoop (P := P) hl (by rw [hrec]; simp); rw [hrec] at this; exact this, hdone _ xs _ (Nat.le_refl _) hS (hI.putObj _ hi (by omega) hl rfl) ((World.putObj_heap_other (by omega)).trans hk)⟩

end Go.Proofs.Ytmbnjgnmblgjoaa.Man
end

-- Marks
section
/- A loop each of whose rounds ranges over a function leaves as_ many marks among its activation's deferred calls: what they are, and how the function leaves with them. Over any program. -/

namespace Go.Proofs.Ytmbnjgnmblgjoaa.Man
open Go.RowKit
set_option linter.unusedVariables false
set_option linter.unusedSimpArgs false

/-- The marks of such loops, the last one first: each names a block of its own from n0 on, which holds no call. -/
def Marks (n0 : Nat) : List Deferred → World → Prop
  | [], _ => True
  | d :: ds, W => (∃ D, d = { target := .collected D, args := #[] } ∧ n0 ≤ D ∧ W.heap[D]? = some (.deferred (some [])) ∧ ∀ d' ∈ ds, ∀ D', d'.target = .collected D' → D' < D) ∧ Marks n0 ds W

theorem Marks.lt {n0 : Nat} : ∀ {ds : List Deferred} {W : World}, Marks n0 ds W → ∀ d ∈ ds, ∀ D, d.target = .collected D → D < W.heap.size
  | [], _, _, d, hd, _, _ => by cases hd
  | d0 :: ds, W, ⟨⟨D0, h0, _, hb, _⟩, hr⟩, d, hd, D, hD => by
    rcases List.mem_cons.1 hd with rfl | hd
    · rw [h0] at hD; simp at hD; subst hD; exact (Array.getElem?_eq_some_iff.1 hb).1
    · exact Marks.lt hr d hd D hD

/-- They stay where what is no cells stays. -/
theorem Marks.kept {n0 : Nat} : ∀ {ds : List Deferred} {W W' : World}, Marks n0 ds W → (∀ (k : Nat) (o : Obj), n0 ≤ k → W.heap[k]? = some o → o.isCells = false → W'.heap[k]? = some o) → Marks n0 ds W'
  | [], _, _, _, _ => trivial
  | d0 :: ds, W, W', ⟨⟨D0, h0, hn, hb, hl⟩, hr⟩, h => ⟨⟨D0, h0, hn, h _ _ hn hb rfl, hl⟩, Marks.kept hr h⟩

theorem Marks.kept_lt {n0 B : Nat} : ∀ {ds : List Deferred} {W W' : World}, Marks n0 ds W → (∀ d ∈ ds, ∀ D, d.target = .collected D → D < B) → (∀ k, k < B → W'.heap[k]? = W.heap[k]?) → Marks n0 ds W'
  | [], _, _, _, _, _ => trivial
  | d0 :: ds, W, W', ⟨⟨D0, h0, hn, hb, hl⟩, hr⟩, hB, h => ⟨⟨D0, h0, hn, (h _ (hB d0 (by simp) D0 (by rw [h0]))).trans hb, hl⟩, Marks.kept_lt hr (fun d hd => hB d (List.mem_cons_of_mem _ hd)) h⟩

theorem Marks.push {n0 : Nat} {ds : List Deferred} {W : World} {D : Nat} (h : Marks n0 ds W) (hn : n0 ≤ D) (hb : W.heap[D]? = some (.deferred (some []))) (hl : ∀ d ∈ ds, ∀ D', d.target = .collected D' → D' < D) :
    Marks n0 ({ target := .collected D, args := #[] } :: ds) W := ⟨⟨D, rfl, hn, hb, hl⟩, h⟩

/-- What is no cells turns no box, and no row of the call's own. -/
theorem boxed_nc {W W' : World} {row : Option Nat} {B : Nat} {t : TypeId} {v : Value} (h : Boxed W B t v) (hg : W.grownBy W' row) (hr : ∀ r, row = some r → ∃ o : Obj, W.heap[r]? = some o ∧ o.isCells = false) : Boxed W' B t v :=
  h.kept hg (fun e => by obtain ⟨o, ho, hc⟩ := hr B e.symm; rw [show W.heap[B]? = _ from h] at ho; cases ho; cases hc)
theorem own_nc {W W' : World} {row : Option Nat} {base : Nat} {e : TypeId} {size n : Nat} {v : Value} {xs : List Value} (h : W.ownsRow base e size v n xs) (hg : W.grownBy W' row) (hr : ∀ r, row = some r → ∃ o : Obj, W.heap[r]? = some o ∧ o.isCells = false) : W'.ownsRow base e size v n xs := by
  refine h.kept hg ?_
  rcases h.2 with ⟨rfl, _⟩ | ⟨g, cap, cur, rfl, _, hgb, _⟩
  · exact .inl rfl
  · refine .inr (fun e => ?_)
    simp only [Value.ownBlock] at e
    obtain ⟨o, ho, hc⟩ := hr g e.symm
    rw [hgb] at ho; cases ho; cases hc
/-- .. and of a box or a row that is made of cells nothing turns where blocks that are no cells are shut. -/
theorem own_move_ {W W' : World} {base : Nat} {e : TypeId} {size n : Nat} {v : Value} {xs : List Value} (h : W.ownsRow base e size v n xs) (hm : ∀ (k : Nat) (o : Obj), W.heap[k]? = some o → o.isCells = true → W'.heap[k]? = some o) : W'.ownsRow base e size v n xs := by
  obtain ⟨h1, h2⟩ := h
  refine ⟨h1, ?_⟩
  rcases h2 with h2 | ⟨g, cap, cur, rfl, hg, hh, r⟩
  · exact .inl h2
  · exact .inr ⟨g, cap, cur, rfl, hg, hm _ _ hh rfl, r⟩

/-- W' is W, with some blocks from n0 on that are no cells turned. -/
structure Shut (n0 : Nat) (W W' : World) : Prop where
  os : W'.os = W.os
  tape : W'.tape = W.tape
  output : W'.output = W.output
  size : W'.heap.size = W.heap.size
  block : ∀ k, k < n0 → W'.heap[k]? = W.heap[k]?
  cells : ∀ (k : Nat) (o : Obj), W.heap[k]? = some o → o.isCells = true → W'.heap[k]? = some o
theorem Shut.refl (n0 : Nat) (W : World) : Shut n0 W W := ⟨rfl, rfl, rfl, rfl, fun _ _ => rfl, fun _ _ h _ => h⟩
theorem Shut.below {n0 : Nat} {W W' : World} (h : Shut n0 W W') : Below n0 W W' := ⟨h.os, h.tape, h.output, by rw [h.size]; exact Nat.le_refl _, h.block⟩
theorem Shut.put {n0 : Nat} {W : World} {D : Nat} {o : Obj} (o' : Obj) (hn : n0 ≤ D) (hD : W.heap[D]? = some o) (ho : o.isCells = false) : Shut n0 W (W.putObj D o') :=
  ⟨rfl, rfl, rfl, by simp, fun k hk => World.putObj_heap_other (by omega), fun k o2 h2 hc => (World.putObj_heap_other (fun e => by subst e; rw [hD] at h2; cases h2; rw [ho] at hc; cases hc)).trans h2⟩
theorem Shut.trans {n0 : Nat} {A B C : World} (h : Shut n0 A B) (k : Shut n0 B C) : Shut n0 A C :=
  ⟨k.os.trans h.os, k.tape.trans h.tape, k.output.trans h.output, k.size.trans h.size, fun i hi => (k.block i hi).trans (h.block i hi), fun i o ho hc => k.cells i o (h.cells i o ho hc) hc⟩

theorem leaves_marks {F : Fence} {n : Nat} {P : Program} {fn : Func} {tmps : Array Value} {R : Ending → World → Prop} {n0 : Nat} : ∀ (ds : List Deferred) (W : World), Marks n0 ds W →
    (∀ W', Shut n0 W W' → LeavesInM F n P fn tmps R [] .returning W') → LeavesInM F n P fn tmps R ds .returning W
  | [], W, _, h => h W (Shut.refl _ _)
  | d :: ds, W, ⟨⟨D, hd, hn, hb, hl⟩, hr⟩, h => by
    refine ⟨by simp, .inl ⟨D, _, by rw [hd], run_takeDeferred hb, ?_⟩⟩
    have hs : Shut n0 W (W.putObj D (.deferred none)) := Shut.put _ hn hb rfl
    refine leaves_marks ds _ ?_ (fun W' h' => h W' (hs.trans h'))
    exact marks_put ds hr hl
where
  marks_put {D : Nat} {W : World} {n0 : Nat} : ∀ (ds : List Deferred), Marks n0 ds W → (∀ d' ∈ ds, ∀ D', d'.target = .collected D' → D' < D) → Marks n0 ds (W.putObj D (.deferred none))
    | [], _, _ => trivial
    | d :: ds, ⟨⟨D0, h0, hn, hb, hl⟩, hr⟩, hlt => ⟨⟨D0, h0, hn, (World.putObj_heap_other (by have := hlt d (by simp) D0 (by rw [h0]); omega)).trans hb, hl⟩, marks_put ds hr (fun d' h' => hlt d' (List.mem_cons_of_mem _ h'))⟩

end Go.Proofs.Ytmbnjgnmblgjoaa.Man
end

-- WLast
section
-- PRINTED BY print.sh 35421559b90ae4d0a3588c463048766b98c2df88dd9212a6774a882060cdf62d: not written by this session
/-
  PRINTED WORDS, second file: A REGION THAT DRAWS ITS ORDER, WALKED BY HAND, where its last store writes what its own loads read ('x.f = append(x.f, f(i))'). Plain theorems; no macro, no elab. A claim may hold it (turn the namespace's name).
  A load may be taken first in every world that meets S; behind the operations of ds nothing is shown; sound because each of ds waits for what is taken (Region.lastB). The kernel checks it.
  By an AI agent of Go's test side, Mon Nov 16 2026. No person has read it.
-/




namespace Go.Proofs.YtmbnjgnmblgjoaaW.PrintLast

section
variable {P : Program} {ops : Array Oper} {Q : Exit → Act → World → Prop} {md : Region.Mode} {S : World → Prop} {ds : List Nat}

/-- Operation d waits for operation i, by a chain of at most 'fuel' edges. -/
def Region.reachB (md : Region.Mode) (ops : Array Oper) (i : Nat) : Nat → Nat → Bool
  | 0, _ => false
  | fuel + 1, d => match ops[d]? with
    | some o => o.after.any fun e => Region.binds md e && (e.on == i || Region.reachB md ops i fuel e.on)
    | none => false

/-- What is listed is closed under the edges. -/
def Region.closedB (md : Region.Mode) (ops : Array Oper) (listed : Array Bool) : Bool :=
  (List.range ops.size).all fun j => !listed.getD j false || match ops[j]? with
    | some o => o.after.all fun e => !Region.binds md e || listed.getD e.on false
    | none => true

/-- Each of ds that has not come up yet waits for number i. -/
def Region.lastB (md : Region.Mode) (ops : Array Oper) (listed : Array Bool) (ds : List Nat) (i : Nat) : Bool :=
  ds.all fun d => listed.getD d true || Region.reachB md ops i ops.size d

def ListedClosed (md : Region.Mode) (ops : Array Oper) (listed : Array Bool) : Prop :=
  ∀ j oj, ops[j]? = some oj → listed.getD j false = true → ∀ e ∈ oj.after, Region.binds md e = true → listed.getD e.on false = true

theorem Region.closedB_spec {listed : Array Bool} (h : Region.closedB md ops listed = true) : ListedClosed md ops listed := by
  intro j oj hj hl e he hb
  have hlt : j < ops.size := (Array.getElem?_eq_some_iff.1 hj).1
  have h1 := List.all_eq_true.1 h j (List.mem_range.2 hlt)
  simp only [hl, hj, Bool.not_true, Bool.false_or] at h1
  have h2 := Array.all_eq_true_iff_forall_mem.1 h1 e he
  simpa [hb] using h2

theorem ListedClosed.set {listed : Array Bool} {i : Nat} (h : ListedClosed md ops listed) (hi : i ∈ Region.ready md ops listed) : ListedClosed md ops (listed.setIfInBounds i true) := by
  obtain ⟨_, oi, hoi, hall⟩ := mem_ready.1 hi
  intro j oj hj hl e he hb
  by_cases hij : i = j
  · subst hij
    have : oj = oi := Option.some.inj (hj.symm.trans hoi)
    subst this
    exact getD_set_true (hall e he hb)
  · rw [getD_set_ne false hij] at hl
    exact getD_set_true (h j oj hj hl e he hb)

theorem Region.reach_listed {listed : Array Bool} {i : Nat} (hc : ListedClosed md ops listed) : ∀ (fuel d : Nat), Region.reachB md ops i fuel d = true → listed.getD d false = true → listed.getD i false = true
  | 0, _, h, _ => by simp [Region.reachB] at h
  | fuel + 1, d, h, hl => by
    unfold Region.reachB at h
    cases ho : ops[d]? with
    | none => rw [ho] at h; simp at h
    | some o =>
      rw [ho] at h
      obtain ⟨e, he, h1⟩ := Array.any_eq_true'.1 h
      simp only [Bool.and_eq_true, Bool.or_eq_true, beq_iff_eq] at h1
      have hle := hc d o ho hl e he h1.1
      rcases h1.2 with h2 | h2
      · rw [← h2]; exact hle
      · exact Region.reach_listed hc fuel e.on h2 hle

/-- What waits for i cannot come up before i is listed. -/
theorem Region.reach_not_ready {listed : Array Bool} {i d fuel : Nat} (hc : ListedClosed md ops listed) (hr : Region.reachB md ops i fuel d = true) (hun : listed.getD i true = false) : d ∉ Region.ready md ops listed := by
  intro hd
  obtain ⟨_, o, ho, hall⟩ := mem_ready.1 hd
  have hi : listed.getD i false = true := by
    cases fuel with
    | zero => simp [Region.reachB] at hr
    | succ n =>
      unfold Region.reachB at hr
      rw [ho] at hr
      obtain ⟨e, he, h1⟩ := Array.any_eq_true'.1 hr
      simp only [Bool.and_eq_true, Bool.or_eq_true, beq_iff_eq] at h1
      have hle := hall e he h1.1
      rcases h1.2 with h2 | h2
      · rw [← h2]; exact hle
      · exact Region.reach_listed hc n e.on h2 hle
  rcases Nat.lt_or_ge i listed.size with h' | h'
  · simp [h'] at hun hi
    rw [hun] at hi
    cases hi
  · simp [Array.getElem?_eq_none h'] at hun

/-- Whatever order is picked from here on, AND 'S' HOLDS BEHIND EVERY OPERATION THAT IS CARRIED OUT, those of ds apart. -/
def wpAnyLast (P : Program) (md : Region.Mode) (ops : Array Oper) (Q : Exit → Act → World → Prop) (S : World → Prop) (ds : List Nat) : Nat → Array Bool → Act → World → Prop
  | 0, listed, a, w => Region.ready md ops listed = [] ∧ Q .normal a w
  | fuel + 1, listed, a, w =>
    (Region.ready md ops listed = [] → Q .normal a w) ∧
    ∀ i ∈ Region.ready md ops listed, wpOp P ops Q i (fun a' w' => (i ∉ ds → S w → S w') ∧ wpAnyLast P md ops Q S ds fuel (listed.setIfInBounds i true) a' w') a w

theorem wpAny_of_last : ∀ (fuel : Nat) (listed : Array Bool) (a : Act) (w : World), wpAnyLast P md ops Q S ds fuel listed a w → wpAny P md ops Q fuel listed a w
  | 0, _, _, _, h => h
  | fuel + 1, _, _, _, h => ⟨h.1, fun i hi => wpOp_mono (fun a' w' h' => wpAny_of_last fuel _ a' w' h'.2) (h.2 i hi)⟩

theorem wpAnyLast_first {i : Nat} {oi : Oper} {v : Value} (hi : ops[i]? = some oi) (hsel : ∀ (j : Nat) (o : Oper) cs b, ops[j]? = some o → o.op ≠ .select cs b)
    (hQ : ∀ c a w, Q (.panic c) (a.put oi.dst v) w → Q (.panic c) a w) (n : Nat) :
    ∀ (fuel : Nat) (listed : Array Bool) (a : Act) (w : World),
      (∀ j oj, ops[j]? = some oj → j ≠ i → listed.getD j true = false → (∀ e ∈ oj.after, Region.binds md e = true → e.on ≠ i) → oi.apart ops oj = true) →
      ListedClosed md ops listed → (∀ d ∈ ds, listed.getD d true = false → Region.reachB md ops i n d = true) →
      i ∈ Region.ready md ops listed → YieldsIf P ops S oi v a → S w →
      wpAnyLast P md ops Q S ds fuel (listed.setIfInBounds i true) (a.put oi.dst v) w → wpAnyLast P md ops Q S ds (fuel + 1) listed a w := by
  intro fuel
  induction fuel with
  | zero =>
    intro listed a w _ _ _ hr hy hS H
    refine ⟨fun h => (by rw [h] at hr; cases hr), fun j hj => ?_⟩
    by_cases hji : j = i
    · subst hji; exact hy.wpOp hi hS ⟨fun _ h => h, H⟩
    · have := ready_mono hj hji
      rw [H.1] at this
      cases this
  | succ fuel ih =>
    intro listed a w hfree hc hd hr hy hS H
    refine ⟨fun h => (by rw [h] at hr; cases hr), fun j hj => ?_⟩
    by_cases hji : j = i
    · subst hji; exact hy.wpOp hi hS ⟨fun _ h => h, H⟩
    · have h1 := H.2 j (ready_mono hj hji)
      obtain ⟨hjun, oj, hoj, hall⟩ := mem_ready.1 hj
      have hiun := (mem_ready.1 hr).1
      have hnot : ∀ e ∈ oj.after, Region.binds md e = true → e.on ≠ i := fun e he hb heq => by
        have h1 := hall e he hb
        rw [heq] at h1
        rcases Nat.lt_or_ge i listed.size with h' | h'
        · simp [h'] at hiun h1; rw [hiun] at h1; cases h1
        · simp [Array.getElem?_eq_none h'] at h1
      have hjd : j ∉ ds := fun hm => Region.reach_not_ready hc (hd j hm hjun) hiun hj
      have h2 := wpOp_putIf hoj (hfree j oj hoj hji hjun hnot) (fun cs b => hsel i oi cs b hi) (fun cs b => hsel j oj cs b hoj) hQ hy h1
      have hfree' : ∀ k ok, ops[k]? = some ok → k ≠ i → (listed.setIfInBounds j true).getD k true = false →
          (∀ e ∈ ok.after, Region.binds md e = true → e.on ≠ i) → oi.apart ops ok = true := fun k ok hk hki hun hno => by
        refine hfree k ok hk hki ?_ hno
        by_cases hjk : j = k
        · subst hjk; exact hjun
        · rw [getD_set_ne true hjk] at hun; exact hun
      have hd' : ∀ d ∈ ds, (listed.setIfInBounds j true).getD d true = false → Region.reachB md ops i n d = true := fun d hm hun => by
        refine hd d hm ?_
        by_cases hjk : j = d
        · subst hjk; exact hjun
        · rw [getD_set_ne true hjk] at hun; exact hun
      refine wpOp_mono (fun a' w' h3 => ⟨h3.2.1, ih (listed.setIfInBounds j true) a' w' hfree' (hc.set hj) hd' (ready_mono hr (Ne.symm hji)) h3.1 (h3.2.1 hjd hS) ?_⟩) h2
      rw [Array.setIfInBounds_comm _ _ hji]
      exact h3.2.2

/-- Take number 'i' first, which yields whatever the world: no S is asked for, nor that anything waits for it. -/
theorem wpAnyLast_any {i : Nat} {oi : Oper} {v : Value} (hi : ops[i]? = some oi) (hsel : ∀ (j : Nat) (o : Oper) cs b, ops[j]? = some o → o.op ≠ .select cs b)
    (hQ : ∀ c a w, Q (.panic c) (a.put oi.dst v) w → Q (.panic c) a w) :
    ∀ (fuel : Nat) (listed : Array Bool) (a : Act) (w : World),
      (∀ j oj, ops[j]? = some oj → j ≠ i → listed.getD j true = false → (∀ e ∈ oj.after, Region.binds md e = true → e.on ≠ i) → oi.apart ops oj = true) →
      i ∈ Region.ready md ops listed → Yields P ops oi v a →
      wpAnyLast P md ops Q S ds fuel (listed.setIfInBounds i true) (a.put oi.dst v) w → wpAnyLast P md ops Q S ds (fuel + 1) listed a w := by
  intro fuel
  induction fuel with
  | zero =>
    intro listed a w _ hr hy H
    refine ⟨fun h => (by rw [h] at hr; cases hr), fun j hj => ?_⟩
    by_cases hji : j = i
    · subst hji; exact (hy.yieldsIf (S := fun _ => True)).wpOp hi trivial ⟨fun _ h => h, H⟩
    · have := ready_mono hj hji
      rw [H.1] at this
      cases this
  | succ fuel ih =>
    intro listed a w hfree hr hy H
    refine ⟨fun h => (by rw [h] at hr; cases hr), fun j hj => ?_⟩
    by_cases hji : j = i
    · subst hji; exact (hy.yieldsIf (S := fun _ => True)).wpOp hi trivial ⟨fun _ h => h, H⟩
    · have h1 := H.2 j (ready_mono hj hji)
      obtain ⟨hjun, oj, hoj, hall⟩ := mem_ready.1 hj
      have hiun := (mem_ready.1 hr).1
      have hnot : ∀ e ∈ oj.after, Region.binds md e = true → e.on ≠ i := fun e he hb heq => by
        have h1 := hall e he hb
        rw [heq] at h1
        rcases Nat.lt_or_ge i listed.size with h' | h'
        · simp [h'] at hiun h1; rw [hiun] at h1; cases h1
        · simp [Array.getElem?_eq_none h'] at h1
      have h2 := wpOp_put hoj (hfree j oj hoj hji hjun hnot) (fun cs b => hsel i oi cs b hi) (fun cs b => hsel j oj cs b hoj) hQ hy h1
      have hfree' : ∀ k ok, ops[k]? = some ok → k ≠ i → (listed.setIfInBounds j true).getD k true = false →
          (∀ e ∈ ok.after, Region.binds md e = true → e.on ≠ i) → oi.apart ops ok = true := fun k ok hk hki hun hno => by
        refine hfree k ok hk hki ?_ hno
        by_cases hjk : j = k
        · subst hjk; exact hjun
        · rw [getD_set_ne true hjk] at hun; exact hun
      refine wpOp_mono (fun a' w' h3 => ⟨h3.2.1, ih (listed.setIfInBounds j true) a' w' hfree' (ready_mono hr (Ne.symm hji)) h3.1 ?_⟩) h2
      rw [Array.setIfInBounds_comm _ _ hji]
      exact h3.2.2

/-- Take number 'i' first. -/
theorem wpAnyLast_take {i : Nat} {oi : Oper} {v : Value} {fuel : Nat} {listed : Array Bool} {a : Act} {w : World} (hi : ops[i]? = some oi)
    (hs : Region.noSelect ops = true) (hf : Region.free md ops listed i = true) (hr : (Region.ready md ops listed).contains i = true)
    (hc : Region.closedB md ops listed = true) (hl : Region.lastB md ops listed ds i = true)
    (hQ : ∀ c a w, Q (.panic c) (a.put oi.dst v) w → Q (.panic c) a w) (hy : YieldsIf P ops S oi v a) (hS : S w)
    (h : wpAnyLast P md ops Q S ds fuel (listed.setIfInBounds i true) (a.put oi.dst v) w) : wpAnyLast P md ops Q S ds (fuel + 1) listed a w :=
  wpAnyLast_first hi (Region.noSelect_spec hs) hQ ops.size fuel listed a w (Region.free_spec hi hf) (Region.closedB_spec hc)
    (fun d hm hun => by have := List.all_eq_true.1 hl d hm; rw [hun] at this; simpa using this) (by simpa using hr) hy hS h

theorem wpAnyLast_all {rs : List Nat} {fuel : Nat} {listed : Array Bool} {a : Act} {w : World} (hr : Region.ready md ops listed = rs) (hne : rs ≠ [])
    (h : ∀ i ∈ rs, wpOp P ops Q i (fun a' w' => (i ∉ ds → S w → S w') ∧ wpAnyLast P md ops Q S ds fuel (listed.setIfInBounds i true) a' w') a w) : wpAnyLast P md ops Q S ds (fuel + 1) listed a w :=
  ⟨fun h0 => absurd (hr ▸ h0) hne, hr ▸ h⟩

theorem wpAnyLast_done {listed : Array Bool} {a : Act} {w : World} (hr : Region.ready md ops listed = []) (h : Q .normal a w) :
    ∀ fuel, wpAnyLast P md ops Q S ds fuel listed a w
  | 0 => ⟨hr, h⟩
  | _ + 1 => ⟨fun _ => h, by rw [hr]; simp⟩

theorem wp_region_last {id : Nat} {a : Act} {w : World} (hm : P.follows .mixedOrders = true)
    (h : wpAnyLast P .any ops Q S ds ops.size (Array.replicate ops.size false) a { w with drawn := w.drawn + 1 }) : (Code.region id ops true).wp P Q a w :=
  wp_region_any hm (wpAny_of_last _ _ _ _ h)

end

section
variable {P : Program} {ops : Array Oper} {Q : Exit → Act → World → Prop} {md : Region.Mode} {S : World → Prop} {ds : List Nat}

def AllReadyL (P : Program) (md : Region.Mode) (ops : Array Oper) (Q : Exit → Act → World → Prop) (S : World → Prop) (ds : List Nat) (fuel : Nat) (listed : Array Bool) (a : Act) (w : World) (rs : List Nat) : Prop :=
  ∀ i ∈ rs, wpOp P ops Q i (fun a' w' => (i ∉ ds → S w → S w') ∧ wpAnyLast P md ops Q S ds fuel (listed.setIfInBounds i true) a' w') a w
theorem AllReadyL.nil {fuel : Nat} {listed : Array Bool} {a : Act} {w : World} : AllReadyL P md ops Q S ds fuel listed a w [] := fun _ h => by cases h
theorem AllReadyL.cons {fuel : Nat} {listed : Array Bool} {a : Act} {w : World} {i : Nat} {o : Oper} {rs : List Nat} (ho : ops[i]? = some o) (hd : i ∉ ds)
    (h : ∀ K' : Act → World → Prop, Shut (∀ a w, S w → (S w → wpAnyLast P md ops Q S ds fuel (listed.setIfInBounds i true) a w) → K' a w) → if Region.wanted o (yielded ops a.tmps) = true then Oper.wp P o a w K' Q else K' (a.put o.dst undef) w)
    (hs : AllReadyL P md ops Q S ds fuel listed a w rs) : AllReadyL P md ops Q S ds fuel listed a w (i :: rs) := fun j hj => by
  rcases List.mem_cons.1 hj with rfl | hj
  · exact wpOp_step ho (fun K' hK => h K' (fun a w hS hW => hK a w ⟨fun _ _ => hS, hW hS⟩))
  · exact hs j hj
/-- Behind an operation of ds nothing is shown. -/
theorem AllReadyL.cons_last {fuel : Nat} {listed : Array Bool} {a : Act} {w : World} {i : Nat} {o : Oper} {rs : List Nat} (ho : ops[i]? = some o) (hd : i ∈ ds)
    (h : ∀ K' : Act → World → Prop, Shut (∀ a w, wpAnyLast P md ops Q S ds fuel (listed.setIfInBounds i true) a w → K' a w) → if Region.wanted o (yielded ops a.tmps) = true then Oper.wp P o a w K' Q else K' (a.put o.dst undef) w)
    (hs : AllReadyL P md ops Q S ds fuel listed a w rs) : AllReadyL P md ops Q S ds fuel listed a w (i :: rs) := fun j hj => by
  rcases List.mem_cons.1 hj with rfl | hj
  · exact wpOp_step ho (fun K' hK => h K' (fun a w hW => hK a w ⟨fun hn => absurd hd hn, hW⟩))
  · exact hs j hj
theorem wpAnyLast_ready {rs : List Nat} {fuel : Nat} {listed : Array Bool} {a : Act} {w : World} (hr : Region.ready md ops listed = rs) (hne : rs ≠ [])
    (h : AllReadyL P md ops Q S ds fuel listed a w rs) : wpAnyLast P md ops Q S ds (fuel + 1) listed a w := wpAnyLast_all hr hne h
/-- THE SAME STEPS WITH WHAT HAS COME UP WRITTEN OUT (a literal array of Bools) and one check a step: quicker, and what is printed stays short. -/
theorem start_ {id n : Nat} {a : Act} {w : World} (l : Array Bool) (hm : P.follows .mixedOrders = true) (hn : ops.size = n) (hl : Array.replicate n false = l) (hS : S w.drew)
    (h : S w.drew → wpAnyLast P .any ops Q S ds n l a w.drew) : (Code.region id ops true).wp P Q a w := by
  subst hn
  subst hl
  exact wp_region_last hm (h hS)
def takeB (md : Region.Mode) (ops : Array Oper) (ds : List Nat) (l l' : Array Bool) (i : Nat) : Bool :=
  Region.noSelect ops && Region.free md ops l i && (Region.ready md ops l).contains i && Region.closedB md ops l && Region.lastB md ops l ds i && (l.setIfInBounds i true == l')
theorem take_ {i : Nat} {N : Option Tmp} {oi : Oper} {v : Value} {fuel : Nat} {l : Array Bool} {a : Act} {w : World} (l' : Array Bool) (hi : ops[i]? = some oi) (hN : oi.dst = N) (hc : takeB md ops ds l l' i = true)
    (hQ : ∀ c a w, Q (.panic c) (a.put oi.dst v) w → Q (.panic c) a w) (hy : YieldsIf P ops S oi v a) (hS : S w) {a' : Act} (ha : a.put N v = a')
    (h : wpAnyLast P md ops Q S ds fuel l' a' w) : wpAnyLast P md ops Q S ds (fuel + 1) l a w := by
  subst ha
  subst hN
  simp only [takeB, Bool.and_eq_true, beq_iff_eq] at hc
  obtain ⟨⟨⟨⟨⟨h1, h2⟩, h3⟩, h4⟩, h5⟩, h6⟩ := hc
  subst h6
  exact wpAnyLast_take hi h1 h2 h3 h4 h5 hQ hy hS h
def anyB (md : Region.Mode) (ops : Array Oper) (l l' : Array Bool) (i : Nat) : Bool :=
  Region.noSelect ops && Region.free md ops l i && (Region.ready md ops l).contains i && (l.setIfInBounds i true == l')
/-- An operation that yields in every world (a move, a number, an address): taken first wherever it may come up, behind a store too. -/
theorem pure_ {i : Nat} {N : Option Tmp} {oi : Oper} {v : Value} {fuel : Nat} {l : Array Bool} {a : Act} {w : World} (l' : Array Bool) (hi : ops[i]? = some oi) (hN : oi.dst = N) (hc : anyB md ops l l' i = true)
    (hQ : ∀ c a w, Q (.panic c) (a.put oi.dst v) w → Q (.panic c) a w) (hy : Yields P ops oi v a) {a' : Act} (ha : a.put N v = a')
    (h : wpAnyLast P md ops Q S ds fuel l' a' w) : wpAnyLast P md ops Q S ds (fuel + 1) l a w := by
  subst ha
  subst hN
  simp only [anyB, Bool.and_eq_true, beq_iff_eq] at hc
  obtain ⟨⟨⟨h1, h2⟩, h3⟩, h6⟩ := hc
  subst h6
  exact wpAnyLast_any hi (Region.noSelect_spec h1) hQ fuel l a w (Region.free_spec hi h2) (by simpa using h3) hy h
def readyB (md : Region.Mode) (ops : Array Oper) (l l' : Array Bool) (i : Nat) : Bool := (Region.ready md ops l == [i]) && (l.setIfInBounds i true == l')
/-- One operation alone may come up now (a call, a build, an append ..): it is run, S is shown behind it. -/
theorem one_ {i : Nat} {N : Option Tmp} {oi : Oper} {fuel : Nat} {l : Array Bool} {a : Act} {w : World} (l' : Array Bool) (hi : ops[i]? = some oi) (hN : oi.dst = N) (hc : readyB md ops l l' i = true) (hd : i ∉ ds)
    (h : ∀ K : Act → World → Prop, Shut (∀ a' w', S w' → (S w' → wpAnyLast P md ops Q S ds fuel l' a' w') → K a' w') → if Region.wanted oi (yielded ops a.tmps) = true then Oper.wp P oi a w K Q else K (a.put N undef) w) :
    wpAnyLast P md ops Q S ds (fuel + 1) l a w := by
  subst hN
  simp only [readyB, Bool.and_eq_true, beq_iff_eq] at hc
  obtain ⟨h1, h2⟩ := hc
  subst h2
  exact wpAnyLast_ready h1 (by simp) (AllReadyL.cons hi hd (fun K hK => h K hK) AllReadyL.nil)
/-- The same for one of ds: nothing is shown behind it. -/
theorem last_ {i : Nat} {N : Option Tmp} {oi : Oper} {fuel : Nat} {l : Array Bool} {a : Act} {w : World} (l' : Array Bool) (hi : ops[i]? = some oi) (hN : oi.dst = N) (hc : readyB md ops l l' i = true) (hd : i ∈ ds)
    (h : ∀ K : Act → World → Prop, Shut (∀ a' w', wpAnyLast P md ops Q S ds fuel l' a' w' → K a' w') → if Region.wanted oi (yielded ops a.tmps) = true then Oper.wp P oi a w K Q else K (a.put N undef) w) :
    wpAnyLast P md ops Q S ds (fuel + 1) l a w := by
  subst hN
  simp only [readyB, Bool.and_eq_true, beq_iff_eq] at hc
  obtain ⟨h1, h2⟩ := hc
  subst h2
  exact wpAnyLast_ready h1 (by simp) (AllReadyL.cons_last hi hd (fun K hK => h K hK) AllReadyL.nil)
theorem done_ {l : Array Bool} {a : Act} {w : World} {n : Nat} (hr : (Region.ready md ops l == []) = true) (h : Q .normal a w) : wpAnyLast P md ops Q S ds n l a w := wpAnyLast_done (by simpa using hr) h n
/-! ### Several operations that write or call may come up: each order is walked, what follows is shown once (join_) -/
/-- The act with some destinations filled. -/
def putAll : Act → List (Tmp × Value) → Act
  | a, [] => a
  | a, (n, v) :: r => putAll (a.put (some n) v) r
/-- The act written out. -/
theorem norm_ {fuel : Nat} {l : Array Bool} {a a' : Act} {w : World} (ha : a = a') (h : wpAnyLast P md ops Q S ds fuel l a' w) : wpAnyLast P md ops Q S ds fuel l a w := by
  subst ha
  exact h
/-- A call of a Go function, by its contract. -/
theorem call_ {oi : Oper} {N : Option Tmp} {a : Act} {w : World} {K : Act → World → Prop} (f : FuncId) (args : Array Value) (hw : Region.wanted oi (yielded ops a.tmps) = true) (hN : oi.dst = N) (hrun : (execOp a.eval oi).run P w = .ok (.enter f args) w)
    (h : Calls P f args w fun e w' => ∃ v, e = .returned v ∧ K (a.put N v) w') : if Region.wanted oi (yielded ops a.tmps) = true then Oper.wp P oi a w K Q else K (a.put N undef) w := by
  rw [if_pos hw]
  subst hN
  unfold Oper.wp
  rw [hrun, Oper.upon_enter]
  refine h.mono fun e w'' hh => ?_
  obtain ⟨v, rfl, hk⟩ := hh
  exact hk
theorem enters_ {f : FuncId} {fn : Func} (hf : P.funcs[f]? = some fn) (hname : (fn.name == "runtime.NumGoroutine") = false) (hb : fn.body.isSome = true) (args : Array Value) (w : World) : (callFunc f args).run P w = .ok (.enter f args) w := by
  have h1 : fn.name ≠ "runtime.NumGoroutine" := by simpa using hname
  obtain ⟨c, hc⟩ := Option.isSome_iff_exists.1 hb
  simp [callFunc, hf, h1, hc]
/-- The same, the operation's run shown here: 'goes_ A.func3 (by kernel_rfl) rfl #[..] (by rfl) rfl rfl (by rfl) ?_'. -/
theorem goes_ {oi : Oper} {N : Option Tmp} {a : Act} {w : World} {K : Act → World → Prop} {f : FuncId} {fn : Func} {as_ : Array Operand} {ts : Array TypeId} (hf : P.funcs[f]? = some fn) (hname : (fn.name == "runtime.NumGoroutine") = false) (hb : fn.body.isSome = true) (args : Array Value)
    (hw : Region.wanted oi (yielded ops a.tmps) = true) (hN : oi.dst = N) (hop : oi.op = .call { callee := .value (.func f), args := as_, argTypes := ts }) (hargs : as_.map a.eval = args)
    (h : Calls P f args w fun e w' => ∃ v, e = .returned v ∧ K (a.put N v) w') : if Region.wanted oi (yielded ops a.tmps) = true then Oper.wp P oi a w K Q else K (a.put N undef) w := by
  refine call_ f args hw hN ?_ h
  have he := enters_ hf hname hb args w
  unfold execOp
  simp [hop, resolve, Deferred.ofValue, invoke, Act.eval, hargs, he]
/-- A call in a plain region, as_ an arm of go_wp2_with ('hd' first: it fails at once at another operation). -/
theorem goesL_ {rest : List Oper} {oi : Oper} {a : Act} {w : World} (N : Option Tmp) (hd : oi.dst = N) (hg : oi.guard = none) {f : FuncId} {fn : Func} {as_ : Array Operand} {ts : Array TypeId} (hf : P.funcs[f]? = some fn) (hname : (fn.name == "runtime.NumGoroutine") = false) (hb : fn.body.isSome = true) (args : Array Value)
    (hop : oi.op = .call { callee := .value (.func f), args := as_, argTypes := ts }) (hargs : as_.map a.eval = args)
    (h : Calls P f args w fun e w' => ∃ v, e = .returned v ∧ wpList P ops Q rest (a.put N v) w') : wpList P ops Q (oi :: rest) a w := by
  refine wpList_plain hg fun K hK => ?_
  have he := enters_ hf hname hb args w
  have hrun : (execOp a.eval oi).run P w = .ok (.enter f args) w := by
    unfold execOp
    simp [hop, resolve, Deferred.ofValue, invoke, Act.eval, hargs, he]
  unfold Oper.wp
  rw [hrun, Oper.upon_enter]
  refine h.mono fun e w'' hh => ?_
  obtain ⟨v, rfl, hk⟩ := hh
  subst hd
  exact hK _ _ hk
/-- An operation that yields a value (and may make memory). -/
theorem value_ {oi : Oper} {N : Option Tmp} {a : Act} {w w1 : World} {v : Value} {K : Act → World → Prop} (hw : Region.wanted oi (yielded ops a.tmps) = true) (hN : oi.dst = N) (hrun : (execOp a.eval oi).run P w = .ok (.value v) w1)
    (h : K (a.put N v) w1) : if Region.wanted oi (yielded ops a.tmps) = true then Oper.wp P oi a w K Q else K (a.put N undef) w := by
  rw [if_pos hw]
  subst hN
  unfold Oper.wp
  rw [hrun]
  exact h
/-- A store. -/
theorem skip_ {oi : Oper} {a : Act} {w w1 : World} {K : Act → World → Prop} (hw : Region.wanted oi (yielded ops a.tmps) = true) (hN : oi.dst = none) (hrun : (execOp a.eval oi).run P w = .ok .skip w1)
    (h : K a w1) : if Region.wanted oi (yielded ops a.tmps) = true then Oper.wp P oi a w K Q else K (a.put none undef) w := by
  rw [if_pos hw]
  unfold Oper.wp
  rw [hrun]
  show K (a.put oi.dst undef) w1
  rw [hN]
  exact h
theorem i64_w (n : Int) : IntKind.i64.wrap n = Go.RowKit.wrap64 n := by unfold Go.RowKit.wrap64; exact IntKind.wrap_i64 n
theorem i32_w (n : Int) : IntKind.i32.wrap n = Go.RowKit.wrap32 n := by unfold Go.RowKit.wrap32; exact IntKind.wrap_i32 n
end
end Go.Proofs.YtmbnjgnmblgjoaaW.PrintLast
end

-- WQPut
section
-- PRINTED BY print.sh 35421559b90ae4d0a3588c463048766b98c2df88dd9212a6774a882060cdf62d: not written by this session


/-! ### 39. Stores into a row that may begin inside its block (Q): Q_form, Q_elem, Q_seg; scalars: Q_cell, Q_putg -/
namespace Go.Proofs.YtmbnjgnmblgjoaaW.PrintWords
open Go.RowKit
namespace Kd
section
variable {α : Type} {d : Kd α} {e base g o n cap : Nat} {ok okp : Nat → Prop} {w W : World} {v : Value} {xs : List α}
end
section
variable {α : Type} {enc : α → Value} {h1 : ∀ x, (enc x).oneCell' = true} {e base g o n cap : Nat} {ok : Nat → Prop} {W : World} {xs : List α}
end
end Kd
end Go.Proofs.YtmbnjgnmblgjoaaW.PrintWords
end

-- WApart
section
-- PRINTED BY print.sh 35421559b90ae4d0a3588c463048766b98c2df88dd9212a6774a882060cdf62d: not written by this session


/-! ### 40. Elements whose inner rows lie apart: what is stored into one says nothing of the others.
   S: as_ R, with an owner function f (block to element's index). H: as_ S with a hole: of element i its cells alone are told, its blocks are oki. -/
namespace Go.Proofs.YtmbnjgnmblgjoaaW.PrintWords
open Go.RowKit
namespace Kd
/-- An element with its index: its blocks are those that f gives to it. -/
def tag {α : Type} (f : Nat → Nat) (d : Kd α) : Kd (α × Nat) where
  sz := d.sz
  E := d.E
  K := fun w x cs => d.K w x.1 cs
  M := fun w base ok x cs => d.M w base (fun k => ok k ∧ f k = x.2) x.1 cs
  K_len := fun h => d.K_len h
  K_one := fun h => d.K_one h
  K_below := fun hb h => d.K_below hb h
  K_of_M := fun h => d.K_of_M h
  M_mono := fun hok h => d.M_mono (fun k hk => ⟨hok k hk.1, hk.2⟩) h
  M_bound := fun h => d.M_mono (fun _ hk => ⟨⟨hk.1.1, hk.2⟩, hk.1.2⟩) (d.M_bound h)
  M_move := fun hm h => d.M_move (fun k hk => hm k hk.1) h
  M_lower := fun hb h => d.M_lower hb h
/-- Nothing but its cells: no block is said of it. -/
def bare {α : Type} (d : Kd α) : Kd α where
  sz := d.sz
  E := d.E
  K := d.K
  M := fun w base _ x cs => d.M w base (fun _ => False) x cs
  K_len := fun h => d.K_len h
  K_one := fun h => d.K_one h
  K_below := fun hb h => d.K_below hb h
  K_of_M := fun h => d.K_of_M h
  M_mono := fun _ h => h
  M_bound := fun h => h
  M_move := fun _ h => d.M_move (fun _ hk => hk.elim) h
  M_lower := fun hb h => d.M_lower hb h
/-- The cells themselves. -/
def raw (sz : Nat) : Kd (List Value) where
  sz := sz
  E := []
  K := fun _ x cs => cs = x ∧ cs.length = sz ∧ ∀ u ∈ cs, u.oneCell' = true
  M := fun _ _ _ x cs => cs = x ∧ cs.length = sz ∧ ∀ u ∈ cs, u.oneCell' = true
  K_len := fun h => h.2.1
  K_one := fun h => h.2.2
  K_below := fun _ h => h
  K_of_M := fun h => h
  M_mono := fun _ h => h
  M_bound := fun h => h
  M_move := fun _ h => h
  M_lower := fun _ h => h
/-- A row of elements (type e) of the call's own, no two of which lead to one block. -/
def S {α : Type} (d : Kd α) (e : Nat) (w : World) (base : Nat) (ok : Nat → Prop) (v : Value) (xs : List α) : Prop := ∃ f, (tag f d).R e w base ok v xs.zipIdx
section
variable {α β : Type} {d : Kd α} {d' : Kd β} {e e' : Nat} {w w1 W : World} {base b : Nat} {ok ok' okv oku : Nat → Prop} {u v : Value} {xs : List α} {ys : List β}
theorem S_nil (d : Kd α) (e : Nat) (w : World) (base : Nat) (ok : Nat → Prop) : S d e w base ok (.slice none 0 0) [] := ⟨fun _ => 0, R_nil _ _ _ _ _⟩
end
section
variable {α β : Type} {d : Kd α} {d' : Kd β} {e e' g : Nat} {w w1 W : World} {base b : Nat} {ok ok' okv oku : Nat → Prop} {u v : Value} {xs : List α} {ys : List β}
end
/-! #### append, make, literals: the new element's blocks are none of the elder ones' -/
section
variable {P : Program} {ops : Array Oper} {rest : List Oper} {o : Oper} {a : Act} {Q : Exit → Act → World → Prop} {Kc : Act → World → Prop} {α : Type}
end
/-! #### a row with a hole: element i is lent, its blocks are oki; of it the row says its cells alone -/
/-- Element i is these cells; the others are d's. -/
def gap {α : Type} (f : Nat → Nat) (d : Kd α) (i : Nat) (c : List Value) : Kd (α × Nat) where
  sz := d.sz
  E := d.E
  K := fun w x cs => (x.2 = i → cs = c ∧ cs.length = d.sz ∧ ∀ u ∈ cs, u.oneCell' = true) ∧ (x.2 ≠ i → d.K w x.1 cs)
  M := fun w base ok x cs => (x.2 = i → cs = c ∧ cs.length = d.sz ∧ ∀ u ∈ cs, u.oneCell' = true) ∧ (x.2 ≠ i → d.M w base (fun k => ok k ∧ f k = x.2) x.1 cs)
  K_len := fun {w x cs} h => by
    by_cases hx : x.2 = i
    · exact (h.1 hx).2.1
    · exact d.K_len (h.2 hx)
  K_one := fun {w x cs} h => by
    by_cases hx : x.2 = i
    · exact (h.1 hx).2.2
    · exact d.K_one (h.2 hx)
  K_below := fun hb h => ⟨h.1, fun hx => d.K_below hb (h.2 hx)⟩
  K_of_M := fun h => ⟨h.1, fun hx => d.K_of_M (h.2 hx)⟩
  M_mono := fun hok h => ⟨h.1, fun hx => d.M_mono (fun k hk => ⟨hok k hk.1, hk.2⟩) (h.2 hx)⟩
  M_bound := fun h => ⟨h.1, fun hx => d.M_mono (fun _ hk => ⟨⟨hk.1.1, hk.2⟩, hk.1.2⟩) (d.M_bound (h.2 hx))⟩
  M_move := fun hm h => ⟨h.1, fun hx => d.M_move (fun k hk => hm k hk.1) (h.2 hx)⟩
  M_lower := fun hb h => ⟨h.1, fun hx => d.M_lower hb (h.2 hx)⟩
def H {α : Type} (d : Kd α) (e : Nat) (w : World) (base : Nat) (ok : Nat → Prop) (v : Value) (xs : List α) (i : Int) (oki : Nat → Prop) (c : List Value) : Prop :=
  (∀ k, oki k → ok k) ∧ ∃ f, (gap f d i.toNat c).R e w base (fun k => ok k ∧ ¬ oki k) v xs.zipIdx
section
variable {α β : Type} {d : Kd α} {e e' g n cap : Nat} {w w1 W : World} {base : Nat} {ok ok' oki okp : Nat → Prop} {u v : Value} {xs : List α} {i : Int} {c : List Value}
end
section
variable {P : Program} {ops : Array Oper} {rest : List Oper} {o : Oper} {a : Act} {Q : Exit → Act → World → Prop} {α : Type}
end
end Kd
end Go.Proofs.YtmbnjgnmblgjoaaW.PrintWords
end

-- WArr
section
-- PRINTED BY print.sh 35421559b90ae4d0a3588c463048766b98c2df88dd9212a6774a882060cdf62d: not written by this session

/-! ### 41. Arrays '[n]T' as_ values: a kind (a field, an element of a row), an element read, an element set -/
namespace Go.Proofs.YtmbnjgnmblgjoaaW.PrintWords
open Go.RowKit
namespace Kd
theorem reps_one {α : Type} {R : α → List Value → Prop} {size : Nat} {ps : List α} {cs : List Value} (h : Reps R size ps cs) (hs0 : 0 < size) (hR : ∀ p c, R p c → ∀ u ∈ c, u.oneCell' = true) : ∀ u ∈ cs, u.oneCell' = true := by
  intro u hu
  obtain ⟨q, hq, rfl⟩ := List.mem_iff_getElem.1 hu
  have hql : q / size < ps.length := by
    rw [Nat.div_lt_iff_lt_mul hs0, ← h.1]
    exact hq
  refine hR _ _ (h.2 (q / size) _ (List.getElem?_eq_getElem hql)) _ ?_
  rw [List.mem_iff_getElem?]
  refine ⟨q % size, ?_⟩
  rw [List.getElem?_take, if_pos (Nat.mod_lt _ hs0), List.getElem?_drop, Nat.mul_comm, Nat.div_add_mod, List.getElem?_eq_getElem hq]
/-- An array of n elements of kind d. -/
def arr {α : Type} (n : Nat) (d : Kd α) (hs : 0 < d.sz) : Kd (List α) where
  sz := n * d.sz
  E := d.E
  K := fun w xs cs => xs.length = n ∧ Reps (d.K w) d.sz xs cs
  M := fun w base ok xs cs => xs.length = n ∧ Reps (d.M w base ok) d.sz xs cs
  K_len := fun h => by rw [← h.1]; exact h.2.1
  K_one := fun h => reps_one h.2 hs (fun _ _ hk => d.K_one hk)
  K_below := fun hb h => ⟨h.1, h.2.imp_ (fun _ _ hk => d.K_below hb hk)⟩
  K_of_M := fun h => ⟨h.1, h.2.imp_ (fun _ _ hk => d.K_of_M hk)⟩
  M_mono := fun hok h => ⟨h.1, h.2.imp_ (fun _ _ hk => d.M_mono hok hk)⟩
  M_bound := fun h => ⟨h.1, h.2.imp_ (fun _ _ hk => d.M_bound hk)⟩
  M_move := fun hm h => ⟨h.1, h.2.imp_ (fun _ _ hk => d.M_move hm hk)⟩
  M_lower := fun hb h => ⟨h.1, h.2.imp_ (fun _ _ hk => d.M_lower hb hk)⟩
section
variable {α : Type} {n : Nat} {d : Kd α} {hs : 0 < d.sz} {w : World} {base : Nat} {ok : Nat → Prop} {xs : List α} {cs : List Value}
end
section
variable {α : Type} {n : Nat} {enc : α → Value} {h1 : ∀ x, (enc x).oneCell' = true} {hs : 0 < (scalar enc h1).sz} {w : World} {base : Nat} {ok : Nat → Prop} {xs : List α} {cs : List Value}
end
end Kd
end Go.Proofs.YtmbnjgnmblgjoaaW.PrintWords
end

-- WZeros
section
-- PRINTED BY print.sh 35421559b90ae4d0a3588c463048766b98c2df88dd9212a6774a882060cdf62d: not written by this session


/-! ### 42. append(v, make([]T, n)...): the operation comes as_ append with the number in the second place -/
namespace Go.Proofs.YtmbnjgnmblgjoaaW.PrintWords
open Go.RowKit
section
variable {P : Program}
end
namespace Kd
section
variable {P : Program} {ops : Array Oper} {rest : List Oper} {o : Oper} {a : Act} {Q : Exit → Act → World → Prop} {Kc : Act → World → Prop} {α : Type}
end
/-! #### the same for rows whose elements lie apart -/
/-- As_ tag; an element without index leads to nothing. -/
def tagO {α : Type} (f : Nat → Nat) (d : Kd α) : Kd (α × Option Nat) where
  sz := d.sz
  E := d.E
  K := fun w x cs => d.K w x.1 cs
  M := fun w base ok x cs => d.M w base (fun k => ok k ∧ some (f k) = x.2) x.1 cs
  K_len := fun h => d.K_len h
  K_one := fun h => d.K_one h
  K_below := fun hb h => d.K_below hb h
  K_of_M := fun h => d.K_of_M h
  M_mono := fun hok h => d.M_mono (fun k hk => ⟨hok k hk.1, hk.2⟩) h
  M_bound := fun h => d.M_mono (fun _ hk => ⟨⟨hk.1.1, hk.2⟩, hk.1.2⟩) (d.M_bound h)
  M_move := fun hm h => d.M_move (fun k hk => hm k hk.1) h
  M_lower := fun hb h => d.M_lower hb h
section
variable {α : Type} {d : Kd α} {e : Nat} {w : World} {base : Nat} {ok : Nat → Prop} {v : Value} {xs : List α}
def zipO (xs : List α) (z : α) (m : Nat) : List (α × Option Nat) := xs.zipIdx.map (fun p => (p.1, some p.2)) ++ List.replicate m (z, none)
end
section
variable {P : Program} {ops : Array Oper} {rest : List Oper} {o : Oper} {a : Act} {Q : Exit → Act → World → Prop} {Kc : Act → World → Prop} {α : Type}
end
end Kd
end Go.Proofs.YtmbnjgnmblgjoaaW.PrintWords
end

-- WFoot
section
-- PRINTED BY print.sh 35421559b90ae4d0a3588c463048766b98c2df88dd9212a6774a882060cdf62d: not written by this session


/-! ### 43. What is read beside a state: it stays read whatever the state's calls turn ('∀ W', KeepBut w W' g none → d.C W' A n xs') -/
namespace Go.Proofs.YtmbnjgnmblgjoaaW.PrintWords
open Go.RowKit
namespace Kd
/-- What a kind reads lies in the blocks: nothing else of the world is looked at. -/
structure Heap {α : Type} (d : Kd α) : Prop where
  K : ∀ {w w1 : World} {x : α} {cs : List Value}, (∀ k, k < w.heap.size → w1.heap[k]? = w.heap[k]?) → d.K w x cs → d.K w1 x cs
theorem cell_heap {w w1 : World} (hb : ∀ k, k < w.heap.size → w1.heap[k]? = w.heap[k]?) {a : Addr} {v : Value} (h : w.cell? a = some v) : w1.cell? a = some v := by
  have := hb a.block (World.block_lt_of_cell? w a h)
  simpa [World.cell?, this] using h
theorem Heap.C {α : Type} {d : Kd α} (hd : Heap d) {w w1 : World} {A : Option Addr} {n : Nat} {xs : List α} (hb : ∀ k, k < w.heap.size → w1.heap[k]? = w.heap[k]?) (h : d.C w A n xs) : d.C w1 A n xs :=
  ⟨h.1, h.2.1, fun hn => by
    obtain ⟨ad, e, hc⟩ := h.2.2 hn
    refine ⟨ad, e, fun j p hj => ?_⟩
    obtain ⟨c, hs, hr, hcell⟩ := hc j p hj
    exact ⟨c, hs, hd.K hb hr, fun i u hu => cell_heap hb (hcell i u hu)⟩⟩
section
variable {α : Type} {d : Kd α} {e base g n c : Nat} {ok : Nat → Prop} {w w0 W : World} {A : Option Addr} {xs : List α}
end
end Kd
end Go.Proofs.YtmbnjgnmblgjoaaW.PrintWords
end

-- WKept
section
-- PRINTED BY print.sh 35421559b90ae4d0a3588c463048766b98c2df88dd9212a6774a882060cdf62d: not written by this session

/-! ### 45. What a call keeps: all but the blocks of S (the rows that it was given to write) and what is new since -/
namespace Go.Proofs.YtmbnjgnmblgjoaaW.PrintWords
open Go.RowKit
def Kept (w W : World) (S : Nat → Prop) : Prop := w.heap.size ≤ W.heap.size ∧ ∀ i, i < w.heap.size → ¬ S i → W.heap[i]? = w.heap[i]?
section
variable {w W W2 : World} {S S2 S' : Nat → Prop}
theorem Kept.refl (w : World) (S : Nat → Prop) : Kept w w S := ⟨Nat.le_refl _, fun _ _ _ => rfl⟩
theorem Kept.of_below (h : Below w.heap.size w W) (S : Nat → Prop) : Kept w W S := ⟨h.size, fun i hi _ => h.block i hi⟩
theorem Kept.mono (h : Kept w W S) (hs : ∀ k, S k → S' k) : Kept w W S' := ⟨h.1, fun i hi hn => h.2 i hi (fun hk => hn (hs i hk))⟩
theorem Kept.then_ (h : Kept w W S) (k : Kept W W2 S2) (hs : ∀ k, S2 k → S k ∨ w.heap.size ≤ k) : Kept w W2 S :=
  ⟨Nat.le_trans h.1 k.1, fun i hi hn => (k.2 i (Nat.lt_of_lt_of_le hi h.1) (fun h2 => (hs i h2).elim hn (fun h3 => by omega))).trans (h.2 i hi hn)⟩
theorem Kept.below (h : Kept w W S) (hb : Below W.heap.size W W2) : Kept w W2 S := h.then_ (Kept.of_below hb (fun _ => False)) (fun _ hk => hk.elim)
theorem Kept.alloc (h : Kept w W S) (o : Obj) : Kept w (W.alloc o) S := h.below (below_alloc (Below.refl _ _) o)
theorem Kept.drew (h : Kept w W S) : Kept w W.drew S := h
theorem Kept.drewN (h : Kept w W S) (m : Nat) : Kept w (W.drewN m) S := h
theorem Kept.setCell (h : Kept w W S) {p : Addr} (hp : S p.block ∨ w.heap.size ≤ p.block) (u : Value) : Kept w (W.setCell p u) S :=
  h.then_ (S2 := fun k => k = p.block) ⟨by simp [World.setCell], fun i _ hn => Below.heap_setCell W p u i hn⟩ (fun k hk => by rw [hk]; exact hp)
end
namespace Kd
section
variable {α : Type} {d : Kd α} {e base n c : Nat} {ok oki S S2 : Nat → Prop} {w w0 W W1 W2 : World} {v : Value} {A : Option Addr} {xs : List α} {i : Int} {cs : List Value}
end
end Kd
end Go.Proofs.YtmbnjgnmblgjoaaW.PrintWords
end

-- WShare
section
-- PRINTED BY print.sh 35421559b90ae4d0a3588c463048766b98c2df88dd9212a6774a882060cdf62d: not written by this session

/-! ### 46. Values that share: what is only read, with the blocks it lies in (its footprint 'ok'): Foot, F (a row that is read), FK (an element's cells) -/
namespace Go.Proofs.YtmbnjgnmblgjoaaW.PrintWords
open Go.RowKit
/-- P holds in W and in every world that has W's blocks of ok. -/
def Foot (P : World → Prop) (W : World) (ok : Nat → Prop) : Prop := ∀ W' : World, (∀ k, ok k → k < W.heap.size → W'.heap[k]? = W.heap[k]?) → P W'
theorem heap_lt {W W1 : World} {k : Nat} (h : W1.heap[k]? = W.heap[k]?) (hlt : k < W.heap.size) : k < W1.heap.size := by
  rw [Array.getElem?_eq_getElem hlt] at h
  exact (Array.getElem?_eq_some_iff.1 h).1
namespace Foot
variable {P Q : World → Prop} {W W1 : World} {ok ok' : Nat → Prop}
theorem mono (h : Foot P W ok) (hok : ∀ k, ok k → ok' k) : Foot P W ok' := fun W' hW => h W' (fun k hk hlt => hW k (hok k hk) hlt)
theorem step (h : Foot P W ok) (hm : ∀ k, ok k → k < W.heap.size → W1.heap[k]? = W.heap[k]?) : Foot P W1 ok := fun W' hW => h W' (fun k hk hlt => (hW k hk (heap_lt (hm k hk hlt) hlt)).trans (hm k hk hlt))
theorem imp (h : Foot P W ok) (hi : ∀ W', P W' → Q W') : Foot Q W ok := fun W' hW => hi W' (h W' hW)
end Foot
namespace Kd
/-- A row that is only read: what it leads to lies in ok. -/
def F {α : Type} (d : Kd α) (W : World) (ok : Nat → Prop) (A : Option Addr) (n : Nat) (xs : List α) : Prop := Foot (fun W => d.C W A n xs) W ok
/-- An element's cells: what they lead to lies in ok. -/
def FK {α : Type} (d : Kd α) (W : World) (ok : Nat → Prop) (x : α) (c : List Value) : Prop := Foot (fun W => d.K W x c) W ok
section
variable {α β : Type} {d : Kd α} {e base n n' cc g N : Nat} {ok ok' okp S : Nat → Prop} {w w0 w1 W W1 : World} {A A' : Option Addr} {u v v1 : Value} {xs : List α} {xs' : List β} {d' : Kd β} {x : α} {c : List Value}
theorem F_nil (d : Kd α) (W : World) (ok : Nat → Prop) : F d W ok none ([] : List α).length [] := fun W' _ => C_nil d W'
theorem FK_of_M (h : d.M W base ok x c) : FK d W ok x c := fun _ hW => d.K_of_M (M_step h hW)
end
end Kd
end Go.Proofs.YtmbnjgnmblgjoaaW.PrintWords
end

-- WN
section
-- PRINTED BY print.sh 35421559b90ae4d0a3588c463048766b98c2df88dd9212a6774a882060cdf62d: not written by this session


/-! ### 47. N: a row of the call's own whose elements share (what they lead to is only read) -/
namespace Go.Proofs.YtmbnjgnmblgjoaaW.PrintWords
open Go.RowKit
namespace Kd
/-- The cells one behind the other, element by element. -/
def chunks (sz : Nat) (n : Nat) (inner : List Value) : List (List Value) := (List.range n).map fun j => (inner.drop (j * sz)).take sz
theorem chunks_length (sz n : Nat) (inner : List Value) : (chunks sz n inner).length = n := by simp [chunks]
theorem chunks_at {sz n : Nat} {inner : List Value} {j : Nat} (hj : j < n) : (chunks sz n inner)[j]? = some ((inner.drop (j * sz)).take sz) := by simp [chunks, hj]
theorem chunks_get {sz n : Nat} {inner : List Value} {j : Nat} {c : List Value} (h : (chunks sz n inner)[j]? = some c) : c = (inner.drop (j * sz)).take sz := by
  have hj : j < n := by have := (List.getElem?_eq_some_iff.1 h).1; rwa [chunks_length] at this
  rw [chunks_at hj] at h
  injection h with h
  exact h.symm
theorem reps_raw {α : Type} {Rr : α → List Value → Prop} {sz : Nat} {xs : List α} {inner : List Value} (h : Reps Rr sz xs inner) (hR : ∀ x c, Rr x c → c.length = sz ∧ ∀ u ∈ c, u.oneCell' = true) : Reps (fun x cs => cs = x ∧ cs.length = sz ∧ ∀ u ∈ cs, u.oneCell' = true) sz (chunks sz xs.length inner) inner := by
  refine ⟨by rw [chunks_length]; exact h.1, fun j p hj => ?_⟩
  have hjl : j < xs.length := by have := (List.getElem?_eq_some_iff.1 hj).1; rwa [chunks_length] at this
  have hp := chunks_get hj
  exact ⟨hp.symm, hR _ _ (h.2 j _ (List.getElem?_eq_getElem hjl))⟩
section
variable {α : Type} {d : Kd α} {e base n cc g : Nat} {ok ok' okp S : Nat → Prop} {w w1 W W1 : World} {A : Option Addr} {u v v1 : Value} {xs : List α} {x : α} {c : List Value}
/-- A row of elements (type e) of the call's own; what the elements lead to is only read, and is not this row. -/
def N {α : Type} (d : Kd α) (e : Nat) (w : World) (base : Nat) (ok : Nat → Prop) (v : Value) (xs : List α) : Prop :=
  (∀ k, v.ownBlock = some k → ok k) ∧ ∃ rows : List (List Value), rows.length = xs.length ∧ (raw d.sz).R e w base (fun k => some k = v.ownBlock) v rows ∧ ∀ (j : Nat) (x : α) (c : List Value), xs[j]? = some x → rows[j]? = some c → FK d w (fun k => ok k ∧ some k ≠ v.ownBlock) x c
theorem R_N (h : d.R e w base ok v xs) : N d e w base ok v xs := by
  obtain ⟨h0, inner, ho, hr⟩ := h
  refine ⟨h0, chunks d.sz xs.length inner, chunks_length _ _ _, ⟨fun k hk => hk.symm, inner, by rw [chunks_length]; exact ho, reps_raw hr (fun x c hp => ⟨d.K_len (d.K_of_M hp), d.K_one (d.K_of_M hp)⟩)⟩, fun j x c hx hc => ?_⟩
  rw [chunks_get hc]
  exact FK_of_M (hr.2 j x hx)
theorem N_nil (d : Kd α) (e : Nat) (w : World) (base : Nat) (ok : Nat → Prop) : N d e w base ok (.slice none 0 0) [] := R_N (R_nil _ _ _ _ _)
end
end Kd
end Go.Proofs.YtmbnjgnmblgjoaaW.PrintWords
end

-- WNEv
section
-- PRINTED BY print.sh 35421559b90ae4d0a3588c463048766b98c2df88dd9212a6774a882060cdf62d: not written by this session

/-! ### 48. N's events: append, a whole row appended, zeros appended, literals, make, stores, cuts, an element taken out -/
namespace Go.Proofs.YtmbnjgnmblgjoaaW.PrintWords
open Go.RowKit
namespace Kd
section
variable {α : Type} {d : Kd α} {e base n cap g : Nat} {ok ok' okp : Nat → Prop} {w w1 W : World} {v v1 : Value} {xs ys : List α}
end
section
variable {P : Program} {ops : Array Oper} {rest : List Oper} {o : Oper} {a : Act} {Q : Exit → Act → World → Prop} {Kc : Act → World → Prop} {α : Type}
end
end Kd
end Go.Proofs.YtmbnjgnmblgjoaaW.PrintWords
end

-- WMore
section
-- PRINTED BY print.sh 35421559b90ae4d0a3588c463048766b98c2df88dd9212a6774a882060cdf62d: not written by this session
-- PRINTED WORDS (module Derived/Print/More.lean): go-gate-2's additions: an AI agent of Go's test side, Tue Nov 17 2026; no person has read it. Lean checks it.








namespace Go.Proofs.YtmbnjgnmblgjoaaW.PrintMore
open Go.RowKit Go.Proofs.YtmbnjgnmblgjoaaW.PrintWords
namespace Kd
open Go.Proofs.YtmbnjgnmblgjoaaW.PrintWords.Kd
end Kd

namespace Kd
open Go.Proofs.YtmbnjgnmblgjoaaW.PrintWords.Kd
section
variable {α : Type} {d : Kd α} {e base g N : Nat} {ok : Nat → Prop} {W w1 : World} {u v : Value} {xs : List α}
end
end Kd
/-- 'max' and 'min' of two whole numbers. -/
theorem max2_int (k k' : IntKind) (x y : Int) : Builtin.max2 (.int k x) (.int k' y) = pure (.int k (if x < y then y else x)) := by simp only [Builtin.max2, gt_iff_lt]
theorem min2_int (k k' : IntKind) (x y : Int) : Builtin.min2 (.int k x) (.int k' y) = pure (.int k (if y < x then y else x)) := by simp only [Builtin.min2]
theorem max_two (ats : Array TypeId) (ty : TypeId) (a b : Value) : Builtin.max_ ats ty #[a, b] = (Builtin.max2 a b >>= fun s => pure s) := by simp only [Builtin.max_, List.foldlM_cons, List.foldlM_nil]
theorem min_two (ats : Array TypeId) (ty : TypeId) (a b : Value) : Builtin.min_ ats ty #[a, b] = (Builtin.min2 a b >>= fun s => pure s) := by simp only [Builtin.min_, List.foldlM_cons, List.foldlM_nil]
theorem max_three (ats : Array TypeId) (ty : TypeId) (a b c : Value) : Builtin.max_ ats ty #[a, b, c] = (Builtin.max2 a b >>= fun s => Builtin.max2 s c >>= fun s => pure s) := by simp only [Builtin.max_, List.foldlM_cons, List.foldlM_nil]
theorem min_three (ats : Array TypeId) (ty : TypeId) (a b c : Value) : Builtin.min_ ats ty #[a, b, c] = (Builtin.min2 a b >>= fun s => Builtin.min2 s c >>= fun s => pure s) := by simp only [Builtin.min_, List.foldlM_cons, List.foldlM_nil]
theorem max_four (ats : Array TypeId) (ty : TypeId) (a b c d : Value) : Builtin.max_ ats ty #[a, b, c, d] = (Builtin.max2 a b >>= fun s => Builtin.max2 s c >>= fun s => Builtin.max2 s d >>= fun s => pure s) := by simp only [Builtin.max_, List.foldlM_cons, List.foldlM_nil]
theorem min_four (ats : Array TypeId) (ty : TypeId) (a b c d : Value) : Builtin.min_ ats ty #[a, b, c, d] = (Builtin.min2 a b >>= fun s => Builtin.min2 s c >>= fun s => Builtin.min2 s d >>= fun s => pure s) := by simp only [Builtin.min_, List.foldlM_cons, List.foldlM_nil]
end Go.Proofs.YtmbnjgnmblgjoaaW.PrintMore
namespace Go.Proofs.YtmbnjgnmblgjoaaW.PrintWords
open Go.RowKit
section
variable {P : Program} {ops : Array Oper} {rest : List Oper} {o : Oper} {a : Act} {Q : Exit → Act → World → Prop} {W : World}
/-- The operation is a call of this function (a cheap look ahead of a dear step). -/
theorem gate_callee {f : FuncId} {as_ : Array Operand} {ts : Array TypeId} (_ho : o.op = .call { callee := .value (.func f), args := as_, argTypes := ts }) (h : wpList P ops Q (o :: rest) a W) : wpList P ops Q (o :: rest) a W := h
/-- The operation is a builtin over these places. -/
theorem gate_builtin {b : Builtin} {xs : Array Operand} {ts : Array TypeId} (_ho : o.op = .call { callee := .builtin b, args := xs, argTypes := ts }) (h : wpList P ops Q (o :: rest) a W) : wpList P ops Q (o :: rest) a W := h
end
/-- The greater of two whole numbers, as_ Go's max tells it. -/
def mx (a b : Int) : Int := if a < b then b else a
/-- The smaller of two whole numbers, as_ Go's min tells it. -/
def mn (a b : Int) : Int := if b < a then b else a
/-- A shift to the left, as_ Go tells it: a count beyond the width leaves nothing. -/
def shl (k : IntKind) (x y : Int) : Int := k.wrap (x * 2 ^ min y.toNat k.bits)
/-- A shift to the right: a count beyond the width leaves the sign. -/
def shr (k : IntKind) (x y : Int) : Int := x / 2 ^ min y.toNat k.bits
theorem shl_small {k : IntKind} {x y j : Int} (h : shl k x y = j) (hy : y ≤ k.bits) : k.wrap (x * 2 ^ y.toNat) = j := by rw [← h]; unfold shl; rw [Nat.min_eq_left (by omega)]
namespace Kd
section
variable {α : Type} {d : Kd α} {e base : Nat} {ok : Nat → Prop} {W w1 : World} {v : Value} {xs : List α}
end
section
variable {α : Type} {d : Kd α} {e base g n cap : Nat} {ok oki okp : Nat → Prop} {W : World} {xs : List α} {i : Int} {c : List Value}
end
section
variable {α : Type} {d : Kd α} {e base b b' g N : Nat} {ok ok1 : Nat → Prop} {W W2 w1 : World} {u v : Value} {xs ys : List α} {S : Nat → Prop}
end
end Kd
end Go.Proofs.YtmbnjgnmblgjoaaW.PrintWords
namespace Go.Proofs.YtmbnjgnmblgjoaaW.PrintWords
open Go.RowKit
namespace Kd
/-- A row that is only read, told by its value: its form, its length, what it leads to (in ok). e and base say nothing; they make it as_ the others are. -/
def V {α : Type} (d : Kd α) (_e : Nat) (W : World) (_base : Nat) (ok : Nat → Prop) (v : Value) (xs : List α) : Prop := ∃ A c, v = .slice A xs.length c ∧ xs.length ≤ c ∧ F d W ok A xs.length xs
section
variable {α β : Type} {d : Kd α} {e base base' n m c g N' lo hi : Nat} {ok ok' S : Nat → Prop} {w W w1 : World} {A : Option Addr} {ad : Addr} {u v v1 : Value} {xs : List α}
theorem V_nil (d : Kd α) (e : Nat) (W : World) (base : Nat) (ok : Nat → Prop) : V d e W base ok (.slice none 0 0) [] := ⟨none, 0, rfl, Nat.le_refl _, F_nil d W ok⟩
end
end Kd
end Go.Proofs.YtmbnjgnmblgjoaaW.PrintWords
end

-- Quad
section
/- quad.groups, quad.Len, quad.Put of the given program: what they come to, for every number of uint64's range and every row of them behind every row of bytes (as_ long as_ the bytes have room: fewer than 2^47). -/











namespace Go.Proofs.Ytmbnjgnmblgjoaa.Man
open Go.RowKit Go.Shelf Go.Proofs.YtmbnjgnmblgjoaaW.PrintWords Go.Proofs.YtmbnjgnmblgjoaaW.PrintLast Go.Proofs.YtmbnjgnmblgjoaaW.PrintMore
set_option linter.unusedVariables false
set_option linter.unusedSimpArgs false
attribute [local go_sem] Oper.semAt_some

/-- A number's bytes. -/
def vb (n : Nat) : List Int := if h : n < 128 then [(n : Int)] else ((n % 128 + 128 : Nat) : Int) :: vb (n / 128)
termination_by n
decreasing_by omega
theorem vb_small {n : Nat} (h : n < 128) : vb n = [(n : Int)] := by rw [vb, dif_pos h]
theorem vb_great {n : Nat} (h : ¬ n < 128) : vb n = ((n % 128 + 128 : Nat) : Int) :: vb (n / 128) := by rw [vb, dif_neg h]

theorem or128 (n : Nat) : Go.bits .or .u8 ((n % 256 : Nat) : Int) 128 = ((n % 128 + 128 : Nat) : Int) := by
  have h : ∀ m : Fin 256, Go.bits .or .u8 ((m.val : Nat) : Int) 128 = ((m.val % 128 + 128 : Nat) : Int) := by decide +kernel
  have := h ⟨n % 256, Nat.mod_lt _ (by decide)⟩
  simp only at this
  rw [this]; congr 1; omega

/-- The number that lies in a box. -/
def boxNat (W : World) (B : Nat) : Nat := match W.cell? ⟨B, 0, none⟩ with | some (.int _ m) => m.toNat | _ => 0
theorem boxNat_eq {W : World} {B t : Nat} {k : IntKind} {m : Nat} (h : Boxed W B t (.int k m)) : boxNat W B = m := by unfold boxNat; rw [h.cell]; simp

/-- What quad.groups' function does between two rounds: it writes its own box. -/
def Turns (B : Nat) (X Y : World) : Prop := ∃ u : Int, Y = X.setCell ⟨B, 0, none⟩ (.int .u64 u)
theorem Turns.grown {B : Nat} {X Y : World} (h : Turns B X Y) : X.grownBy Y (some B) := by obtain ⟨u, rfl⟩ := h; exact grownBy_setCell' _ _ _

theorem groups_in (F : Fence) (k : Nat) (h1 : F.fn 141) (hro : F.round = none) (n : Int) (w : World) :
    CallsIn F k Try.prog 141 #[.int .u64 n] w fun e w' => e = .returned (.func (.func 159) #[] #[.pointer (some ⟨w.heap.size, 0, none⟩)]) ∧ w' = w.alloc (.cells #[.int .u64 n] 90) := by
  refine callsIn_of_wp Try.func141 rfl h1 ?_ hro
  simp only [Try.ntmps141, List.size_toArray, List.length_cons, List.length_nil, Nat.reduceAdd, Nat.reduceSub, Array.replicate_succ, Array.replicate_zero, List.push_toArray, List.append_toArray, List.nil_append, List.cons_append]
  gi_wp2
  go_ret
  exact ⟨rfl, rfl⟩

set_option maxRecDepth 100000 in
set_option maxHeartbeats 2000000 in
theorem groups1_in (F : Fence) (k : Nat) (h1 : F.fn 159) (hro : F.round = none) (hk : 1 ≤ k) (l Bn : Nat) (n : Nat) (hn : n < 18446744073709551616) (J : List Int → World → Prop)
    (hJ : ∀ s A B, J s A → Turns Bn A B → J s B)
    (hY : ∀ pre x W, J pre W → pre ++ [x] <+: vb n → YieldAt F (k - 1) Try.prog l #[.int .u8 x] W fun e W' => e = .returned (.bool true) ∧ J (pre ++ [x]) W' ∧ W'.heap[Bn]? = W.heap[Bn]?)
    (W : World) (hB : Boxed W Bn 90 (.int .u64 n)) (h0 : J [] W) :
    CallsIn F k Try.prog 159 #[.func (.yield l) #[] #[], .pointer (some ⟨Bn, 0, none⟩)] W fun e W' => (∃ v, e = .returned v) ∧ ∃ xs, xs = vb n ∧ J xs W' := by
  refine callsIn_of_wp Try.func159 rfl h1 ?_ hro
  simp only [Try.ntmps159, List.size_toArray, List.length_cons, List.length_nil, Nat.reduceAdd, Nat.reduceSub, Array.replicate_succ, Array.replicate_zero, List.push_toArray, List.append_toArray, List.nil_append, List.cons_append]
  gi_wp2
  gi_loopw [3] (fun _ wr => ∃ (pre : List Int) (m : Nat), Hid (vb n = pre ++ vb m) ∧ m < 18446744073709551616 ∧ Boxed wr Bn 90 (.int .u64 (m : Int)) ∧ J pre wr)
    (fun _ wr => boxNat wr Bn)
  case atStart => exact ⟨[], n, Lib.hid rfl, hn, hB, h0⟩
  case round =>
    clear hB h0
    obtain ⟨pre, m, hx, hm, hB, hJs⟩ := hrel
    have cB := hB.cell
    have fB := hB.frozen
    have hlt := hB.lt
    by_cases hs : m < 128
    · have hd : ((m : Int) > 127) = False := by simp; omega
      have ht : decide ((m : Int) > 127) = false := by simp; omega
      have hpx : pre ++ [(m : Int)] <+: vb n := by rw [hx.out, vb_small hs]; exact List.prefix_refl _
      obtain ⟨fn, tmps, assign, body, hy, hR⟩ := hY pre (m : Int) wr hJs hpx
      have HX := Lib.hid hpx
      clear hpx
      gi_wp2
      refine hR.mono ?_
      rintro e W3 ⟨rfl, hJ3, hk3⟩
      gi_wp2
      go_end0
      exact ⟨⟨_, rfl⟩, pre ++ [(m : Int)], by rw [hx.out, vb_small hs], hJ3⟩
    · have ht : decide ((m : Int) > 127) = true := by simp; omega
      have hpx : pre ++ [((m % 128 + 128 : Nat) : Int)] <+: vb n := by
        rw [hx.out, vb_great hs]; exact ⟨vb (m / 128), by simp⟩
      have ho : Go.bits .or .u8 ((m : Int) % 256) 128 = ((m % 128 + 128 : Nat) : Int) := by have := or128 m; simpa using this
      obtain ⟨x, hxe⟩ : ∃ x, ((m % 128 + 128 : Nat) : Int) = x := ⟨_, rfl⟩
      rw [hxe] at ho hpx
      have HXE := Lib.hid hxe
      clear hxe
      obtain ⟨fn, tmps, assign, body, hy, hR⟩ := hY pre _ wr hJs hpx
      have HX := Lib.hid hpx
      clear hpx
      gi_wp2
      refine hR.mono ?_
      rintro e W3 ⟨rfl, hJ3, hk3⟩
      have hB3 : Boxed W3 Bn 90 (.int .u64 (m : Int)) := hk3.trans hB
      have cB3 := hB3.cell
      have fB3 := hB3.frozen
      gi_wp2
      go_roundw
      case rel =>
        refine ⟨pre ++ [x], m / 128, Lib.hid (by rw [hx.out, vb_great hs, ← HXE.out]; simp), by omega, ?_, hJ _ _ _ hJ3 ⟨_, rfl⟩⟩
        have := hB3.set (.int .u64 ((m : Int) / 128))
        simpa using this
      case measure =>
        have := hB3.set (.int .u64 ((m : Int) / 128))
        rw [boxNat_eq (m := m / 128) (by simpa using this), boxNat_eq hB]
        omega

theorem groups_all (F : Fence) (k : Nat) (h1 : F.fn 159) (hro : F.round = none) (hk : 1 ≤ k) (Bn n : Nat) (hn : n < 18446744073709551616) (w : World) (hB : Boxed w Bn 90 (.int .u64 n)) :
    SeqAll F k Try.prog 159 #[.pointer (some ⟨Bn, 0, none⟩)] (fun x : Int => #[Value.int .u8 x]) (Turns Bn) (fun A B => B.heap[Bn]? = A.heap[Bn]?) (fun xs => xs = vb n) (fun pre => pre <+: vb n) w :=
  fun l J W hW hJ hY h0 => groups1_in F k h1 hro hk l Bn n hn J hJ hY W ((hW.block Bn hB.lt).trans hB) h0

theorem vb_length_pos (n : Nat) : 0 < (vb n).length := by
  by_cases h : n < 128
  · rw [vb_small h]; simp
  · rw [vb_great h]; simp
theorem vb_length_le (j : Nat) : ∀ n : Nat, n < 128 ^ (j + 1) → (vb n).length ≤ j + 1 := by
  induction j with
  | zero => intro n h; rw [vb_small (by simpa using h)]; simp
  | succ j ih =>
    intro n h
    by_cases hs : n < 128
    · rw [vb_small hs]; simp
    · rw [vb_great hs]
      have := ih (n / 128) (by rw [Nat.pow_succ] at h; exact Nat.div_lt_of_lt_mul (by omega))
      simp only [List.length_cons]; omega
theorem vb_le_ten {n : Nat} (h : n < 18446744073709551616) : (vb n).length ≤ 10 := vb_length_le 9 n (by omega)

theorem groups_any (n : Int) (w : World) : Calls Try.prog 141 #[.int .u64 n] w fun e w' => e = .returned (.func (.func 159) #[] #[.pointer (some ⟨w.heap.size, 0, none⟩)]) ∧ w' = w.alloc (.cells #[.int .u64 n] 90) :=
  callsIn_wide.1 (groups_in Fence.wide 3 trivial rfl n w)

/-- Numbers' bytes. -/
def vbs (l : List Int) : List Int := l.flatMap fun x => vb x.toNat
theorem vbs_snoc (l : List Int) (x : Int) : vbs (l ++ [x]) = vbs l ++ vb x.toNat := by simp [vbs]
def areU64 (l : List Int) : Bool := l.all fun c => decide (0 ≤ c ∧ c < 18446744073709551616)
theorem areU64_get {l : List Int} (h : areU64 l = true) {k : Nat} (hk : k < l.length) : 0 ≤ l.getD k 0 ∧ l.getD k 0 < 18446744073709551616 := by
  unfold areU64 at h
  rw [List.all_eq_true] at h
  have := h (l.getD k 0) (by rw [show l.getD k 0 = l[k] by simp [List.getD, hk]]; exact List.getElem_mem hk)
  simpa using this

set_option maxRecDepth 100000 in
set_option maxHeartbeats 4000000 in
theorem put_any (A0 A1 : Option Addr) (c0 c1 : Nat) (b l : List Int) (w : World) (hb : Kd.C (Kd.int .u8) w A0 b.length b) (hl : Kd.C (Kd.int .u64) w A1 l.length l) (hU : areU64 l = true) (hroom : (b ++ vbs l).length ≤ 140737488355328) :
    Calls Try.prog 89 #[.slice A0 b.length c0, .slice A1 l.length c1] w fun e w' => ∃ v, e = .returned v ∧ Kd.R (Kd.int .u8) 5 w' w.heap.size (fun _ => True) v (b ++ vbs l) ∧ Below w.heap.size w w' := by
  have info5 : (Try.prog.info? 5).map (fun i => (i.zero, i.size, i.bytes)) = some (some (.int .u8 0), 1, 1) := by kernel_rfl
  obtain ⟨i0, hi, hz0, hz1, hz2⟩ := info_parts info5
  have HB := Lib.hid hb
  have HL := Lib.hid hl
  have HU := Lib.hid hU
  have HR := Lib.hid hroom
  clear hb hl hU hroom
  refine (callsIn_wide (n := 3)).1 ?_
  refine callsIn_of_wp_marks Try.func89 rfl trivial ?_ rfl
  simp only [Try.ntmps89, List.size_toArray, List.length_cons, List.length_nil, Nat.reduceAdd, Nat.reduceSub, Array.replicate_succ, Array.replicate_zero, List.push_toArray, List.append_toArray, List.nil_append, List.cons_append]
  refine wpIn_wide.2 ?_
  go_upto_region 1 with (fail)
  go_step
  go_step
  go_step
  go_step
  at_builtin
  refine Kd.R_append_rows (Kd.int .u8) (w0 := w) w.heap.size rfl (.const (.slice none 0 0)) (.tmp 9) 27 5 (.int .u8 0) 1 rfl Try.underlying27 info5 rfl (by decide) (by omega) (.slice none 0 0) [] b _ _ _ (fun _ => True) (fun _ => False) rfl rfl (Kd.R_nil _ _ _ _ _) ?aR (fun _ _ h => h) (fun _ h => h.elim) (fun _ _ => trivial) (Below.refl _ _) (Nat.le_refl _) ?aL ?_
  (case aR => exact HB.out)
  (case aL => (have := HR.out; simp at this ⊢; omega))
  intro v1 w1 hown hbel _ _
  have hlu : l.length ≤ 9223372036854775807 := HL.out.2.1
  have HO := Lib.hid (Kd.own_of_R hown)
  have HBL := Lib.hid hbel
  clear hown hbel
  obtain ⟨A2, c2, rfl⟩ := own_slice HO.out
  go_wp2
  obtain ⟨I, HI⟩ : ∃ I : Act → World → Prop, Hid (∀ a wr, I a wr ↔ ∃ (k : Nat) (v : Value) (ds : List Deferred) (x7 x8 x14 x15 x16 x17 x18 x19 x20 x21 x22 x23 x24 : Value), k ≤ l.length ∧ Boxed wr w1.heap.size 27 v ∧
      wr.ownsRow w.heap.size 5 1 v (b ++ vbs (l.take k)).length (encs (Value.int .u8) (b ++ vbs (l.take k))) ∧ Below w.heap.size w wr ∧ Marks w.heap.size ds wr ∧
      a = { tmps := #[.slice A0 b.length c0, .slice A1 l.length c1, undef, undef, .slice none 0 0, .pointer (some ⟨w1.heap.size, 0, none⟩), undef, x7, x8, .slice A0 b.length c0, .slice A2 b.length c2, .slice A1 l.length c1, .int .i64 l.length, .int .i64 k, x14, x15, x16, x17, x18, x19, x20, x21, x22, x23, x24, undef], defers := ds }) := ⟨_, Lib.hid fun _ _ => Iff.rfl⟩
  obtain ⟨μ, Hμ⟩ : ∃ μ : Act → World → Nat, Hid (∀ a wr, μ a wr = l.length - (intOf (a.tmps.getD 13 undef)).toNat) := ⟨_, Lib.hid fun _ _ => rfl⟩
  refine wp_loop I μ ?start ?round
  case start =>
    exact (HI.out _ _).2 ⟨0, _, [], undef, undef, undef, undef, undef, undef, undef, undef, undef, undef, undef, undef, undef, Nat.zero_le _, Boxed.new w1 _ _, by simpa [vbs] using HO.out.alloc _, HBL.out.alloc HBL.out.size _, trivial, rfl⟩
  case round =>
    intro a wr hI
    obtain ⟨k, v, ds, x7, x8, x14, x15, x16, x17, x18, x19, x20, x21, x22, x23, x24, hk, hbx', hown', hbel', hmk', rfl⟩ := (HI.out _ _).1 hI
    clear hI
    obtain ⟨A3, c3, rfl⟩ := own_slice hown'
    have hbx := Lib.hid hbx'
    have hown := Lib.hid hown'
    have hbel := Lib.hid hbel'
    have hmk := Lib.hid hmk'
    clear hbx' hown' hbel' hmk'
    by_cases hlt : k < l.length
    · obtain ⟨ad, rfl, hcell⟩ := Kd.at_int (Kd.C_below HL.out hbel.out) (k : Int) (by omega) (by omega)
      have hrd : rd l (k : Int) = l.getD k 0 := rfl
      rw [hrd, Int.toNat_natCast] at hcell
      obtain ⟨hx0, hx1⟩ := areU64_get HU.out hlt
      obtain ⟨x, hx⟩ : ∃ x : Nat, l.getD k 0 = (x : Int) := ⟨(l.getD k 0).toNat, by omega⟩
      rw [hx] at hcell hx1
      have HX := Lib.hid hx
      clear hrd hx hx0
      have hx2 : x < 18446744073709551616 := by omega
      clear hx1
      go_wp2_with (go_at_call 141; refine (groups_any _ _).mono ?_; rintro e w' ⟨rfl, rfl⟩)
      have bN := Boxed.new wr 90 (.int .u64 (x : Int))
      have hvk : vbs (l.take (k + 1)) = vbs (l.take k) ++ vb x := by
        rw [List.take_succ_eq_append_getElem hlt, vbs_snoc]
        congr 2
        have := HX.out
        rw [show l.getD k 0 = l[k] by simp [List.getD, hlt]] at this
        rw [this]; rfl
      have hlen : (b ++ vbs (l.take k)).length + (vb x).length ≤ 140737488355328 := by
        have h1 := HR.out
        have h2 : (vbs (l.take (k + 1))).length ≤ (vbs l).length := by
          have : vbs l = vbs (l.take (k + 1)) ++ vbs (l.drop (k + 1)) := by unfold vbs; rw [← List.flatMap_append, List.take_append_drop]
          rw [this]; simp
        rw [hvk] at h2
        simp only [List.length_append] at *; omega
      have HVK := Lib.hid hvk
      clear hvk
      refine (wpIn_wide (n := 3)).1 ?_
      refine wpIn_rangeAll rfl (by decide) (gf := 159) (lb := #[.pointer (some ⟨wr.heap.size, 0, none⟩)]) rfl trivial (enters_of Try.func159 (by kernel_rfl) rfl)
        (groups_all Fence.wide 2 trivial rfl (by decide) wr.heap.size x hx2 _ bN) (fun A B j o hg hj h => (hg.grown.block _ (Array.getElem?_eq_some_iff.1 h).1 (fun e => by cases e; simp only [World.size_alloc] at hj; omega)).trans h)
        (fun h k => Eq.trans k h) (fun W l o o' hl h _ => World.putObj_heap_other (by simp at hl; omega)) ?hps
        (fun pre W => ∃ v, Boxed W w1.heap.size 27 v ∧ W.ownsRow w.heap.size 5 1 v ((b ++ vbs (l.take k)) ++ pre).length (encs (Value.int .u8) ((b ++ vbs (l.take k)) ++ pre)) ∧ Below w.heap.size w W ∧ (∃ u, Boxed W wr.heap.size 90 (.int .u64 u)) ∧ Marks w.heap.size ds W)
        ?hI ?hIr ?h0 ?fr ?assign ?body ?done
      case hps => intro _; rfl
      case hI =>
        rintro s X Y row ⟨v, hb, ho, hB, ⟨u, hu⟩, hm⟩ hg hr
        have nc := fun r e => (hr r e).2
        have hge : ∀ r, row = some r → wr.heap.size + 1 ≤ r := fun r e => by have := (hr r e).1; simpa using this
        refine ⟨v, boxed_nc hb hg nc, own_nc ho hg nc, hB.grown hg hB.size (fun r e => by have := hge r e; have := hbel.out.size; omega), ⟨u, boxed_nc hu hg nc⟩, ?_⟩
        exact hm.kept_lt (B := wr.heap.size) (hmk.out.lt) (fun j hj => hg.block j (by have := hu.lt; omega) (fun e => by have := hge j e.symm; omega))
      case hIr =>
        rintro s X Y ⟨v, hb, ho, hB, ⟨u, hu⟩, hm⟩ ⟨u', rfl⟩
        have hne : w1.heap.size ≠ wr.heap.size := by have := hbx.out.lt; omega
        exact ⟨v, hb.other hne _, ho.kept (grownBy_setCell' X _ _) (.inr (hu.not_row (by decide) ho).symm), hB.setCell (p := ⟨wr.heap.size, 0, none⟩) hbel.out.size _, ⟨u', hu.set _⟩, hm.kept (fun j o _ hj hc => (KeepsOthers.setCell X ⟨wr.heap.size, 0, none⟩ (.int .u64 u')).same j o hj hc)⟩
      case h0 =>
        refine ⟨_, hbx.out.alloc _, by rw [List.append_nil]; exact hown.out.alloc _, hbel.out.alloc hbel.out.size _, ⟨_, bN⟩, hmk.out.kept (fun j o _ hj _ => (Below.heap_alloc _ _ _ (Array.getElem?_eq_some_iff.1 hj).1).trans hj)⟩
      case assign =>
        intro l' x' W K hK
        gi_wp2
        exact hK
      case body =>
        rintro l' pre c W ⟨v, hb, ho, hB, ⟨u, hu⟩, hm⟩ hpre
        have hlen2 : ((b ++ vbs (l.take k)) ++ pre).length + 1 ≤ 140737488355328 := by have := hpre.length_le; simp only [List.length_append, List.length_cons, List.length_nil] at *; omega
        obtain ⟨ys, hys⟩ : ∃ ys, (b ++ vbs (l.take k)) ++ pre = ys := ⟨_, rfl⟩
        rw [hys] at ho hlen2
        have HYS := Lib.hid hys
        clear hys
        have hcb := hb.cell
        have hBo := hB
        have hlen3 : ys.length + 1 ≤ 9223372036854775807 := by omega
        have HPX := Lib.hid hpre
        clear hpre
        gi_wp2_with (gi_at_builtin; refine wpListIn_append_own _ rfl _ _ 27 rfl w.heap.size 5 i0 (.int .u8 0) 1 1 Try.underlying27 hi hz0 hz1 hz2 rfl (by decide) _ _ _ rfl (ho.alloc _) ⟨W.heap.size, 0, none⟩ 1 1 [.int .u8 c] rfl rfl (cell_one_new _ _ _) (by simp [Value.oneCell']) (by unfold maxLen; omega) (by omega) (by have := hB.size; simp; omega) ?_; intro v' w2 hown' hgrow _; obtain ⟨g', cap', rfl⟩ := ownsRow_succ hown'; obtain ⟨hv1, hv2, hr2, hk2, hb2⟩ := hb.appended (by decide) ho hB.size HBL.out.size hown' hgrow; have hc1 := hv1.cell; have hf1 := hv1.frozen)
        have hne : wr.heap.size ≠ w1.heap.size := by have := hbx.out.lt; omega
        have hu2 : (w2.setCell ⟨w1.heap.size, 0, none⟩ (.slice (some ⟨g', 0, none⟩) (ys.length + 1) cap')).heap[wr.heap.size]? = W.heap[wr.heap.size]? := by
          rw [Below.heap_setCell _ _ _ _ (by simpa using hne)]
          refine (hgrow.block _ (by have := hu.lt; simp; omega) (hu.not_row (by decide) ho)).trans ?_
          exact Below.heap_alloc _ _ _ hu.lt
        have e1 : (b ++ vbs (l.take k)) ++ (pre ++ [c]) = ys ++ [c] := by rw [← HYS.out]; simp
        refine ⟨hk2.from _, hu2, _, hv2, ?_, hBo.trans hb2, ⟨u, hu2.trans hu⟩, hm.kept (fun j o _ hj hc => hk2.same j o hj hc)⟩
        rw [e1, List.length_append, encs, List.map_append]
        exact hr2
      case done =>
        rintro D xs W hD rfl ⟨v, hb, ho, hB, _, hm⟩ hK
        have hcb := hb.cell
        have HBX := Lib.hid hb
        have HOX := Lib.hid ho
        have HBB := Lib.hid hB
        have HM := Lib.hid hm
        clear hb ho hB hm
        go_wp2
        refine ⟨(HI.out _ _).2 ⟨k + 1, v, _, _, _, _, _, _, _, _, _, _, _, _, _, _, by omega, HBX.out, by rw [HVK.out, ← List.append_assoc]; exact HOX.out, HBB.out, HM.out.push (by simp only [World.size_alloc] at hD; have := hbel.out.size; omega) hK (fun d hd D' hD' => by have := hmk.out.lt d hd D' hD'; simp only [World.size_alloc] at hD; omega), rfl⟩, ?_⟩
        rw [Hμ.out, Hμ.out]
        simp [intOf]; omega
    · obtain rfl : k = l.length := by omega
      have cb := hbx.out.cell
      go_wp2
      refine leaves_marks ds _ hmk.out (fun W' hs => ?_)
      refine ⟨_, results_tmp rfl _ _ _, _, rfl, ?_, hbel.out.trans hs.below⟩
      have := own_move_ hown.out hs.cells
      rw [List.take_length] at this
      exact Kd.R_of_own (by simpa using this) (fun _ _ => trivial)

/-! ### The forms in which the texts written by wip/tools/ppatch.py call them -/
def quad_Put.f (l0 l1 : List Int) : Option (List Int) := if areU64 l1 = true ∧ (l0 ++ vbs l1).length ≤ 140737488355328 then some (l0 ++ vbs l1) else none
end Go.Proofs.Ytmbnjgnmblgjoaa.Man
end

-- QuadMath
section
/- Numbers as_ bytes, in plain numbers: what reading at a place comes to, and that it undoes the writing. No condition but those that each line names. -/




namespace Go.Proofs.Ytmbnjgnmblgjoaa.Man
open Go.RowKit Go.Proofs.YtmbnjgnmblgjoaaW.PrintWords Go.Proofs.YtmbnjgnmblgjoaaW.PrintLast Go.Proofs.YtmbnjgnmblgjoaaW.PrintMore
set_option linter.unusedVariables false
set_option linter.unusedSimpArgs false

/-- Reading from a number's byte i on, n read so far: the number, how many bytes (or where it failed), the error. -/
def getL : List Int → Nat → Nat → Nat × Nat × Int
  | [], i, _ => (0, i, 3)
  | c :: l, i, n => if (0 < i ∧ c = 0) ∨ (i = 9 ∧ 1 < c) then (0, i, 4) else if c < 128 then (n + c.toNat * 128 ^ i, i + 1, 0) else getL l (i + 1) (n + (c.toNat - 128) * 128 ^ i)

/-- All are bytes. -/
def areBytesN (l : List Int) : Bool := l.all fun c => decide (0 ≤ c ∧ c ≤ 255)

theorem pow128 (i : Nat) : 128 ^ (i + 1) = 128 * 128 ^ i := by rw [Nat.pow_succ, Nat.mul_comm]

/-- What was written is read. -/
theorem getL_vb (m : Nat) : ∀ (i n : Nat) (rest : List Int), (i = 0 ∨ 0 < m) → m * 128 ^ i < 18446744073709551616 → i ≤ 9 → getL (vb m ++ rest) i n = (n + m * 128 ^ i, i + (vb m).length, 0) := by
  induction m using Nat.strongRecOn with
  | _ m ih =>
    intro i n rest h0 hm hi
    by_cases hs : m < 128
    · rw [vb_small hs, List.cons_append, getL, if_neg, if_pos (by omega)]
      · simp
      · rintro (⟨h1, h2⟩ | ⟨h1, h2⟩)
        · rcases h0 with h0 | h0 <;> omega
        · subst h1; omega
    · rw [vb_great hs, List.cons_append, getL, if_neg, if_neg (by omega)]
      · have hi9 : i < 9 := by
          rcases Nat.lt_or_ge i 9 with h | h
          · exact h
          · have : i = 9 := by omega
            subst this; omega
        have hd : m / 128 * 128 ^ (i + 1) ≤ m * 128 ^ i := by
          rw [pow128, ← Nat.mul_assoc]
          exact Nat.mul_le_mul_right _ (by omega)
        rw [ih (m / 128) (by omega) (i + 1) _ rest (.inr (by omega)) (by omega) (by omega)]
        have e : (((m % 128 + 128 : Nat) : Int)).toNat - 128 = m % 128 := by omega
        rw [e]
        refine Prod.ext ?_ (Prod.ext ?_ rfl)
        · show n + m % 128 * 128 ^ i + m / 128 * 128 ^ (i + 1) = n + m * 128 ^ i
          rw [pow128, ← Nat.mul_assoc, Nat.add_assoc, ← Nat.add_mul]
          have : m % 128 + m / 128 * 128 = m := by omega
          rw [this]
        · simp only [List.length_cons]; omega
      · rintro (⟨h1, h2⟩ | ⟨h1, h2⟩)
        · omega
        · subst h1; omega

/-- What is read is what is written of it, and no more. -/
theorem getL_inv (l : List Int) : ∀ (i n v off : Nat), areBytesN l = true → i ≤ 9 → getL l i n = (v, off, 0) →
    ∃ m, (0 < i → 0 < m) ∧ v = n + m * 128 ^ i ∧ m < 2 * 128 ^ (9 - i) ∧ off = i + (vb m).length ∧ l = vb m ++ l.drop (vb m).length := by
  induction l with
  | nil => intro i n v off _ _ h; simp [getL] at h
  | cons c l ih =>
    intro i n v off hB hi h
    simp only [areBytesN, List.all_cons, Bool.and_eq_true, decide_eq_true_eq] at hB
    obtain ⟨⟨c0, c1⟩, hB⟩ := hB
    rw [getL] at h
    split at h
    · simp at h
    · rename_i hbad
      split at h
      · rename_i hs
        simp only [Prod.mk.injEq, and_true] at h
        obtain ⟨rfl, rfl⟩ := h
        have hv : vb c.toNat = [c] := by rw [vb_small (by omega)]; congr 1; omega
        refine ⟨c.toNat, fun h0 => ?_, rfl, ?_, by rw [hv]; rfl, by rw [hv]; rfl⟩
        · rcases Nat.eq_zero_or_pos c.toNat with h | h
          · exact absurd (.inl ⟨h0, by omega⟩) hbad
          · exact h
        · rcases Nat.lt_or_ge i 9 with h | h
          · have : 9 - i = (8 - i) + 1 := by omega
            rw [this, pow128]
            have : 128 ^ 0 ≤ 128 ^ (8 - i) := Nat.pow_le_pow_right (by decide) (Nat.zero_le _)
            have h2 : 128 * 1 ≤ 128 * 128 ^ (8 - i) := Nat.mul_le_mul_left _ this
            omega
          · obtain rfl : i = 9 := by omega
            have : ¬ 1 < c := fun hc => hbad (.inr ⟨rfl, hc⟩)
            simp; omega
      · rename_i hs
        have hi9 : i < 9 := by
          rcases Nat.lt_or_ge i 9 with h | h
          · exact h
          · exact absurd (.inr ⟨by omega, by omega⟩) hbad
        obtain ⟨m, h0, hv, hm, hoff, hl⟩ := ih (i + 1) _ v off hB (by omega) h
        have hmp := h0 (by omega)
        have hv2 : vb (m * 128 + (c.toNat - 128)) = c :: vb m := by
          rw [vb_great (by omega)]
          congr 1
          · omega
          · congr 1; omega
        refine ⟨m * 128 + (c.toNat - 128), fun _ => by omega, ?_, ?_, ?_, ?_⟩
        · rw [hv, pow128, Nat.add_mul, Nat.mul_assoc]; omega
        · have : 9 - i = (9 - (i + 1)) + 1 := by omega
          rw [this, pow128]; omega
        · rw [hv2, hoff]; simp only [List.length_cons]; omega
        · rw [hv2, List.cons_append, List.length_cons, List.drop_succ_cons]; congr 1

/-- What is put together of seven bits each. -/
theorem or_shl (n c i : Nat) (hi : i ≤ 9) (hn : n < 128 ^ i) (hc : c * 128 ^ i < 18446744073709551616) : Go.bits .or .u64 (n : Int) ((c * 128 ^ i : Nat) : Int) = ((n + c * 128 ^ i : Nat) : Int) := by
  have hp : (128 : Nat) ^ i = 2 ^ (7 * i) := by rw [Nat.pow_mul]
  rw [hp] at hn hc ⊢
  have hn64 : n < 18446744073709551616 := by
    have : 2 ^ (7 * i) ≤ 2 ^ 63 := Nat.pow_le_pow_right (by decide) (by omega)
    omega
  have h := (bits_nat .u64 64 (by decide) (fun x h0 h1 => by
    have h1' : x < 18446744073709551616 := h1
    rw [IntKind.wrap_u64]; omega) n (c * 2 ^ (7 * i)) (show n < 18446744073709551616 from hn64) (show c * 2 ^ (7 * i) < 18446744073709551616 from hc)).2
  rw [h]
  congr 1
  rw [Nat.or_comm, Nat.mul_comm c, ← Nat.two_pow_add_eq_or_of_lt hn c, Nat.add_comm]

end Go.Proofs.Ytmbnjgnmblgjoaa.Man
end

-- WTab
section
-- PRINTED BY print.sh 35421559b90ae4d0a3588c463048766b98c2df88dd9212a6774a882060cdf62d: not written by this session


/-! ### 50. A region's order in a table, made once a region: each step asks the table (numbers alone), not the operations -/
namespace Go.Proofs.YtmbnjgnmblgjoaaW.PrintLast
open Go.Proofs.YtmbnjgnmblgjoaaW.PrintWords (Aside0)
def needsOf (md : Region.Mode) (o : Oper) : List Nat := (o.after.toList.filter (fun e => Region.binds md e)).map (fun e => e.on)
def clashOf (md : Region.Mode) (ops : Array Oper) (i : Nat) (oi : Oper) : List Nat := (List.range ops.size).filter fun j => !(j == i) && match ops[j]? with
  | some oj => !(oj.after.any (fun e => Region.binds md e && e.on == i) || oi.apart ops oj)
  | none => false
/-- No select in it; for each operation: what must have come up before it, and what may not come up behind it if it is taken first. -/
def rtab (md : Region.Mode) (ops : Array Oper) : Bool × List (List Nat × List Nat) := (Region.noSelect ops, (List.range ops.size).map fun i => match ops[i]? with
  | some o => (needsOf md o, clashOf md ops i o)
  | none => ([], []))
def readyAt (T : List (List Nat × List Nat)) (l : List Bool) (i : Nat) : Bool := !l.getD i true && match T[i]? with
  | some r => r.1.all (fun j => l.getD j false)
  | none => false
def readyT (T : List (List Nat × List Nat)) (l : List Bool) : List Nat := (List.range T.length).filter (readyAt T l)
def freeT (T : List (List Nat × List Nat)) (l : List Bool) (i : Nat) : Bool := match T[i]? with
  | some r => r.2.all (fun j => l.getD j true)
  | none => false
def closedT (T : List (List Nat × List Nat)) (l : List Bool) : Bool := (List.range T.length).all fun j => !l.getD j false || match T[j]? with
  | some r => r.1.all (fun k => l.getD k false)
  | none => true
def reachT (T : List (List Nat × List Nat)) (i : Nat) : Nat → Nat → Bool
  | 0, _ => false
  | fuel + 1, d => match T[d]? with
    | some r => r.1.any fun j => j == i || reachT T i fuel j
    | none => false
def lastT (T : List (List Nat × List Nat)) (l : List Bool) (ds : List Nat) (i : Nat) : Bool := ds.all fun d => l.getD d true || reachT T i T.length d
section
variable {md : Region.Mode} {ops : Array Oper} {T : Bool × List (List Nat × List Nat)} {l l' li lj lk : Array Bool} {ds : List Nat} {i j k : Nat}
theorem gd (l : Array Bool) (j : Nat) (b : Bool) : l.getD j b = l.toList.getD j b := by simp [Array.getD_eq_getD_getElem?, List.getD_eq_getElem?_getD]
theorem needs_all (o : Oper) (p : Nat → Bool) : o.after.all (fun e => !Region.binds md e || p e.on) = (needsOf md o).all p := by
  unfold needsOf
  rw [← Array.all_toList]
  induction o.after.toList with
  | nil => rfl
  | cons e r ih =>
    rw [List.all_cons, ih, List.filter_cons]
    cases h : Region.binds md e <;> simp
theorem needs_any (o : Oper) (p : Nat → Bool) : o.after.any (fun e => Region.binds md e && p e.on) = (needsOf md o).any p := by
  unfold needsOf
  rw [← Array.any_toList]
  induction o.after.toList with
  | nil => rfl
  | cons e r ih =>
    rw [List.any_cons, ih, List.filter_cons]
    cases h : Region.binds md e <;> simp
theorem rtab_length : (rtab md ops).2.length = ops.size := by simp [rtab]
theorem rtab_some {o : Oper} (h : ops[i]? = some o) : (rtab md ops).2[i]? = some (needsOf md o, clashOf md ops i o) := by
  have hi := (Array.getElem?_eq_some_iff.1 h).1
  unfold rtab
  rw [List.getElem?_map, List.getElem?_range hi, Option.map_some, h]
theorem rtab_none (h : ops[i]? = none) : (rtab md ops).2[i]? = none := by
  have hi : ops.size ≤ i := Array.getElem?_eq_none_iff.1 h
  exact List.getElem?_eq_none (by rw [rtab_length]; exact hi)
theorem readyAt_eq : readyAt (rtab md ops).2 l.toList i = (!l.getD i true && ((ops[i]?).map (·.after.all fun e => !Region.binds md e || l.getD e.on false)).getD false) := by
  unfold readyAt
  rw [gd]
  cases h : ops[i]? with
  | none => rw [rtab_none h]; rfl
  | some o =>
    rw [rtab_some h]
    simp only [Option.map_some, Option.getD_some]
    rw [← needs_all]
    simp only [gd]
theorem ready_eq : Region.ready md ops l = readyT (rtab md ops).2 l.toList := by
  unfold Region.ready readyT
  rw [rtab_length]
  refine List.filter_congr (fun i _ => ?_)
  rw [readyAt_eq]
theorem free_eq : Region.free md ops l i = freeT (rtab md ops).2 l.toList i := by
  unfold Region.free freeT
  cases h : ops[i]? with
  | none => rw [rtab_none h]
  | some oi =>
    rw [rtab_some h]
    simp only [clashOf]
    rw [List.all_filter]
    congr 1
    funext j
    rw [gd]
    cases hj : ops[j]? with
    | none => cases (j == i) <;> cases (l.toList.getD j true) <;> simp
    | some oj =>
      cases (j == i) <;> cases (l.toList.getD j true) <;> cases (oj.after.any (fun e => Region.binds md e && e.on == i) || oi.apart ops oj) <;> simp_all
theorem closed_eq : Region.closedB md ops l = closedT (rtab md ops).2 l.toList := by
  unfold Region.closedB closedT
  rw [rtab_length]
  congr 1
  funext j
  rw [gd]
  cases h : ops[j]? with
  | none => rw [rtab_none h]
  | some o =>
    rw [rtab_some h]
    simp only
    rw [← needs_all]
    simp only [gd]
theorem reach_eq : ∀ (fuel d : Nat), Region.reachB md ops i fuel d = reachT (rtab md ops).2 i fuel d
  | 0, _ => rfl
  | fuel + 1, d => by
    unfold Region.reachB reachT
    cases h : ops[d]? with
    | none => rw [rtab_none h]
    | some o =>
      rw [rtab_some h]
      simp only
      rw [← needs_any]
      congr 1
      funext e
      rw [reach_eq fuel]
theorem last_eq : Region.lastB md ops l ds i = lastT (rtab md ops).2 l.toList ds i := by
  unfold Region.lastB lastT
  rw [rtab_length]
  congr 1
  funext d
  rw [gd, reach_eq]
theorem readyAt_mem (h : readyAt T.2 l.toList i = true) (hT : rtab md ops = T) : (Region.ready md ops l).contains i = true := by
  subst hT
  rw [ready_eq]
  unfold readyT
  rw [List.contains_iff_mem, List.mem_filter, List.mem_range]
  refine ⟨?_, h⟩
  unfold readyAt at h
  rw [Bool.and_eq_true] at h
  cases hq : (rtab md ops).2[i]? with
  | none => rw [hq] at h; simp at h
  | some r => exact (List.getElem?_eq_some_iff.1 hq).1
theorem set_of (h : (l.toList.set i true == l'.toList) = true) : (l.setIfInBounds i true == l') = true := by
  rw [beq_iff_eq] at h ⊢
  apply Array.ext'
  rw [Array.toList_setIfInBounds]
  exact h
def anyT (T : Bool × List (List Nat × List Nat)) (l l' : List Bool) (i : Nat) : Bool := T.1 && freeT T.2 l i && readyAt T.2 l i && (l.set i true == l')
/-- pure_'s condition out of the table. -/
theorem any_of (hT : rtab md ops = T) (h : anyT T l.toList l'.toList i = true) : anyB md ops l l' i = true := by
  simp only [anyT, Bool.and_eq_true] at h
  obtain ⟨⟨⟨h1, h2⟩, h3⟩, h4⟩ := h
  have h5 := readyAt_mem h3 hT
  have h6 := set_of h4
  subst hT
  simp only [anyB, Bool.and_eq_true]
  exact ⟨⟨⟨h1, by rw [free_eq]; exact h2⟩, h5⟩, h6⟩
def takeT (T : Bool × List (List Nat × List Nat)) (ds : List Nat) (l l' : List Bool) (i : Nat) : Bool := T.1 && freeT T.2 l i && readyAt T.2 l i && closedT T.2 l && lastT T.2 l ds i && (l.set i true == l')
/-- take_'s. -/
theorem take_of (hT : rtab md ops = T) (h : takeT T ds l.toList l'.toList i = true) : takeB md ops ds l l' i = true := by
  simp only [takeT, Bool.and_eq_true] at h
  obtain ⟨⟨⟨⟨⟨h1, h2⟩, h3⟩, h4⟩, h5⟩, h6⟩ := h
  have h7 := readyAt_mem h3 hT
  have h8 := set_of h6
  subst hT
  simp only [takeB, Bool.and_eq_true]
  exact ⟨⟨⟨⟨⟨h1, by rw [free_eq]; exact h2⟩, h7⟩, by rw [closed_eq]; exact h4⟩, by rw [last_eq]; exact h5⟩, h8⟩
/-- one_'s and last_'s. -/
theorem one_of (hT : rtab md ops = T) (h : (readyT T.2 l.toList == [i] && l.toList.set i true == l'.toList) = true) : readyB md ops l l' i = true := by
  simp only [Bool.and_eq_true] at h
  obtain ⟨h1, h2⟩ := h
  subst hT
  simp only [readyB, Bool.and_eq_true]
  exact ⟨by rw [ready_eq]; exact h1, set_of h2⟩
/-- done_'s. -/
theorem done_of (hT : rtab md ops = T) (h : (readyT T.2 l.toList == []) = true) : (Region.ready md ops l == []) = true := by
  subst hT
  rw [ready_eq]
  exact h
/-- What d waits for, as_ bits: told in the table (B), checked in one pass: each bit is a need of d, or a bit of an earlier need's. -/
def upM (B : List Nat) (d : Nat) : List Nat → Nat
  | [] => 0
  | n :: r => (2 ^ n ||| (if n < d then B.getD n 0 else 0)) ||| upM B d r
def waitsOk (T : List (List Nat × List Nat)) (B : List Nat) : Bool := (List.range T.length).all fun d => match T[d]? with
  | some r => (B.getD d 0 ||| upM B d r.1) == upM B d r.1
  | none => false
theorem upM_bit {B : List Nat} {d i : Nat} : ∀ {ns : List Nat}, (upM B d ns).testBit i = true → ∃ n ∈ ns, n = i ∨ (n < d ∧ (B.getD n 0).testBit i = true)
  | [], h => by simp [upM] at h
  | n :: r, h => by
    unfold upM at h
    rw [Nat.testBit_or, Nat.testBit_or, Bool.or_eq_true, Bool.or_eq_true] at h
    rcases h with (h | h) | h
    · rw [Nat.testBit_two_pow] at h
      exact ⟨n, List.mem_cons_self, .inl (by simpa using h)⟩
    · by_cases hn : n < d
      · rw [if_pos hn] at h
        exact ⟨n, List.mem_cons_self, .inr ⟨hn, h⟩⟩
      · rw [if_neg hn] at h
        simp at h
    · obtain ⟨m, hm, h2⟩ := upM_bit h
      exact ⟨m, List.mem_cons_of_mem _ hm, h2⟩
theorem reach_bit {T : List (List Nat × List Nat)} {B : List Nat} (hB : waitsOk T B = true) : ∀ (fuel d : Nat), d < fuel → d < T.length → (B.getD d 0).testBit i = true → reachT T i fuel d = true
  | 0, d, h, _, _ => by omega
  | fuel + 1, d, h, hd, hb => by
    have h1 := List.all_eq_true.1 hB d (List.mem_range.2 hd)
    cases hr : T[d]? with
    | none => rw [hr] at h1; simp at h1
    | some r =>
      rw [hr] at h1
      simp only [beq_iff_eq] at h1
      have h2 : (upM B d r.1).testBit i = true := by rw [← h1, Nat.testBit_or, hb, Bool.true_or]
      obtain ⟨n, hn, h3⟩ := upM_bit h2
      unfold reachT
      rw [hr]
      simp only
      rw [List.any_eq_true]
      refine ⟨n, hn, ?_⟩
      rcases h3 with rfl | ⟨h4, h5⟩
      · simp
      · rw [reach_bit hB fuel n (by omega) (by omega) h5, Bool.or_true]
def lastW (T : List (List Nat × List Nat)) (B : List Nat) (l : List Bool) (ds : List Nat) (i : Nat) : Bool := ds.all fun d => l.getD d true || (decide (d < T.length) && (B.getD d 0).testBit i)
def takeW (T : Bool × List (List Nat × List Nat)) (B : List Nat) (ds : List Nat) (l l' : List Bool) (i : Nat) : Bool := T.1 && freeT T.2 l i && readyAt T.2 l i && closedT T.2 l && lastW T.2 B l ds i && (l.set i true == l')
/-- take_'s, by the bits. -/
theorem take_ofW {B : List Nat} (hT : rtab md ops = T) (hB : waitsOk T.2 B = true) (h : takeW T B ds l.toList l'.toList i = true) : takeB md ops ds l l' i = true := by
  refine take_of hT ?_
  simp only [takeW, takeT, Bool.and_eq_true] at h ⊢
  obtain ⟨⟨⟨⟨⟨h1, h2⟩, h3⟩, h4⟩, h5⟩, h6⟩ := h
  refine ⟨⟨⟨⟨⟨h1, h2⟩, h3⟩, h4⟩, ?_⟩, h6⟩
  unfold lastW at h5
  unfold lastT
  rw [List.all_eq_true] at h5 ⊢
  intro d hd
  have h7 := h5 d hd
  rw [Bool.or_eq_true, Bool.and_eq_true, decide_eq_true_eq] at h7
  rcases h7 with h7 | ⟨h8, h9⟩
  · rw [h7, Bool.true_or]
  · rw [reach_bit hB _ d h8 h8 h9, Bool.or_true]
theorem with_tabW {P : Program} {Q : Exit → Act → World → Prop} {S : World → Prop} {n : Nat} {a : Act} {w : World} {B : List Nat} (hT : rtab md ops = T) (hB : waitsOk T.2 B = true) (h : Aside0 (rtab md ops = T) → Aside0 (waitsOk T.2 B = true) → wpAnyLast P md ops Q S ds n l a w) : wpAnyLast P md ops Q S ds n l a w := h ⟨hT⟩ ⟨hB⟩
end
/-- The operations of a region, by its number. -/
def opsIn : Code → Nat → Option (Array Oper)
  | .region id ops _, k => if id == k then some ops else none
  | .seq a b, k => match opsIn a k with
    | some o => some o
    | none => opsIn b k
  | .cond _ a b, k => match opsIn a k with
    | some o => some o
    | none => opsIn b k
  | .block _ c, k => opsIn c k
  | .loop c, k => opsIn c k
  | .scope c, k => opsIn c k
  | .rangeFunc _ _ a b, k => match opsIn a k with
    | some o => some o
    | none => opsIn b k
  | _, _ => none
def opsOf (f : Func) (k : Nat) : Array Oper := ((f.body.bind fun c => opsIn c k)).getD #[]
end Go.Proofs.YtmbnjgnmblgjoaaW.PrintLast
end

-- WFour
section
-- PRINTED BY print.sh 35421559b90ae4d0a3588c463048766b98c2df88dd9212a6774a882060cdf62d: not written by this session

/-! ### 56. Four, five, six operations that may come up next, in any order -/
namespace Go.Proofs.YtmbnjgnmblgjoaaW.PrintLast
section
variable {P : Program} {ops : Array Oper} {Q : Exit → Act → World → Prop} {md : Region.Mode} {S : World → Prop} {ds : List Nat} {T : Bool × List (List Nat × List Nat)}
end
end Go.Proofs.YtmbnjgnmblgjoaaW.PrintLast
end

-- Get
section
/- quad.Get of the given program: what it comes to, at every place (of int's range) of every row of bytes. -/





namespace Go.Proofs.Ytmbnjgnmblgjoaa.Man
open Go.RowKit Go.Proofs.YtmbnjgnmblgjoaaW.PrintWords Go.Proofs.YtmbnjgnmblgjoaaW.PrintLast Go.Proofs.YtmbnjgnmblgjoaaW.PrintMore
set_option linter.unusedVariables false
set_option linter.unusedSimpArgs false

/-- quad.Get. -/
def getF (b : List Int) (at_ : Int) : Int × Int × Int :=
  if at_ < 0 ∨ (b.length : Int) < at_ then (0, 0, 1) else (((getL (b.drop at_.toNat) 0 0).1 : Int), at_ + ((getL (b.drop at_.toNat) 0 0).2.1 : Int), (getL (b.drop at_.toNat) 0 0).2.2)

theorem and127 (c : Int) (h0 : 0 ≤ c) (h1 : c ≤ 255) : Go.bits .and .u8 c 127 = c % 128 :=
  bits_mask .u8 8 (by decide) wraps_u8 7 (by decide) c h0 (by simp; omega)

theorem getN_get {l : List Int} (h : areBytesN l = true) {k : Nat} (hk : k < l.length) : 0 ≤ l.getD k 0 ∧ l.getD k 0 ≤ 255 := by
  unfold areBytesN at h
  rw [List.all_eq_true] at h
  have := h (l.getD k 0) (by rw [show l.getD k 0 = l[k] by simp [List.getD, hk]]; exact List.getElem_mem hk)
  simpa using this
theorem areBytesN_drop {l : List Int} (h : areBytesN l = true) (k : Nat) : areBytesN (l.drop k) = true := by
  unfold areBytesN at *
  rw [List.all_eq_true] at *
  exact fun x hx => h x (List.mem_of_mem_drop hx)

theorem shl_wrap (c : Int) (m i : Nat) (h : c = m) (hb : m * 128 ^ i < 18446744073709551616) : IntKind.u64.wrap (c * 2 ^ (7 * i)) = ((m * 128 ^ i : Nat) : Int) := by
  have e : c * 2 ^ (7 * i) = ((m * 128 ^ i : Nat) : Int) := by
    rw [h, Int.pow_mul, Int.natCast_mul, Int.natCast_pow]; rfl
  rw [e, IntKind.wrap_u64]
  omega
theorem room_at (m i : Nat) (hi : i < 9) (hm : m < 128) : m * 128 ^ i < 18446744073709551616 := by
  have h1 : 128 ^ (i + 1) ≤ 128 ^ 9 := Nat.pow_le_pow_right (by decide) hi
  have h2 : (128 : Nat) ^ 9 = 9223372036854775808 := by decide
  have h3 : (m + 1) * 128 ^ i ≤ 128 * 128 ^ i := Nat.mul_le_mul_right _ hm
  rw [pow128] at h1
  rw [Nat.add_mul] at h3
  omega

set_option maxRecDepth 100000 in
set_option maxHeartbeats 4000000 in
theorem get_at (A0 : Option Addr) (c0 : Nat) (b : List Int) (p : Nat) (w : World) (hr : Kd.C (Kd.int .u8) w A0 b.length b) (hc : b.length ≤ c0) (hB : areBytesN b = true) (hp : p ≤ b.length) :
    Calls Try.prog 91 #[.slice A0 b.length c0, .int .i64 p] w fun e w' =>
      e = .returned (.tuple #[.int .u64 ((getL (b.drop p) 0 0).1 : Int), .int .i64 ((p : Int) + ((getL (b.drop p) 0 0).2.1 : Int)), .int .i64 (getL (b.drop p) 0 0).2.2]) ∧ w = w' := by
  have info5 : (Try.prog.info? 5).map (fun i => (i.zero, i.size, i.bytes)) = some (some (.int .u8 0), 1, 1) := by kernel_rfl
  obtain ⟨i0, hi0, _, hsz, _⟩ := info_parts info5
  obtain ⟨A8, hcut, hA8, hC8⟩ := print_drop_of (P := Try.prog) (Value.int .u8) 0 27 5 .i64 Try.underlying27 hi0 hsz A0 c0 b (p : Int) (by omega) (by omega) hc
  have hl0 := Kd.C_of_reads (h1 := fun _ => rfl) (hA8 _ (Kd.reads_of_C hr))
  have hB8 := areBytesN_drop hB p
  rw [Int.toNat_natCast] at hl0 hcut
  have hlen : b.length ≤ 9223372036854775807 := hr.2.1
  have hdl : (b.drop p).length = b.length - p := List.length_drop
  obtain ⟨l, hl⟩ : ∃ l, b.drop p = l := ⟨_, rfl⟩
  rw [hl] at hl0 hB8 hdl hcut ⊢
  have HLD := Lib.hid hl
  have HR := Lib.hid hl0
  have HB := Lib.hid hB8
  have HD := Lib.hid hdl
  have hll : (p : Int) + l.length ≤ 9223372036854775807 := by omega
  have hn1 : ¬ ((p : Int) < 0) := by omega
  clear hl0 hB8 hl hA8 hr hB hi0 hsz info5
  obtain ⟨R, hR⟩ : ∃ R, getL l 0 0 = R := ⟨_, rfl⟩
  rw [hR]
  have HRes := Lib.hid hR
  clear hR
  go_enter Try.func91, Try.ntmps91
  go_wp2
  go_loop [7, 8, 9, 22, 27, 43] (fun v7 _ _ v22 _ _ => ∃ (i n : Nat), v7 = .int .u64 (n : Int) ∧ v22 = .int .i64 (i : Int) ∧ i ≤ b.length - p ∧ i ≤ 9 ∧ Hid (n < 128 ^ i) ∧ Hid (getL (l.drop i) i n = R))
    (fun _ _ _ v22 _ _ => b.length - p - (intOf v22).toNat)
  case atStart => exact ⟨0, 0, rfl, rfl, Nat.zero_le _, by decide, Lib.hid (by decide), Lib.hid (by rw [List.drop_zero]; exact HRes.out)⟩
  case round =>
    clear HRes
    obtain ⟨i, n, rfl, rfl, hi, hi9, hn, hg⟩ := hrel
    by_cases hlt : i < b.length - p
    · have hltl : i < l.length := by rw [HD.out]; exact hlt
      obtain ⟨ad, rfl, hcell⟩ := Kd.at_int HR.out (i : Int) (by omega) (by omega)
      have hrd : rd l (i : Int) = l.getD i 0 := rfl
      rw [hrd, Int.toNat_natCast] at hcell
      obtain ⟨hc0, hc1⟩ := getN_get HB.out hltl
      have hgd : l.drop i = l.getD i 0 :: l.drop (i + 1) := by rw [List.drop_eq_getElem_cons hltl]; simp [List.getD, hltl]
      have hg2 := hg.out
      rw [hgd, getL] at hg2
      obtain ⟨c, hcv⟩ : ∃ c, l.getD i 0 = c := ⟨_, rfl⟩
      rw [hcv] at hcell hc0 hc1 hg2
      have hpi : (p : Int) + i < 9223372036854775807 := by omega
      have HG := Lib.hid hg2
      clear hrd hgd hg2 hcv hg hltl
      by_cases hbad : (0 < i ∧ c = 0) ∨ (i = 9 ∧ 1 < c)
      · have hR : R = (0, i, 4) := by have := HG.out; rw [if_pos hbad] at this; exact this.symm
        subst hR
        rcases hbad with ⟨h0, rfl⟩ | ⟨h9, h1⟩
        · go_wp2
          go_ret3
          exact ⟨by simp, rfl⟩
        · have hz : (c == 0) = false := by rw [beq_eq_false_iff_ne]; omega
          have h0 : 0 < i := by omega
          have h9' : ((i : Int) == 9) = true := by rw [beq_iff_eq]; omega
          clear h9
          go_wp2
          go_ret3
          exact ⟨by simp, rfl⟩
      · have hg3 := HG.out
        rw [if_neg hbad] at hg3
        have HG3 := Lib.hid hg3
        clear hg3 HG
        have hq : i = 0 ∨ (0 < i ∧ i < 9 ∧ c ≠ 0) ∨ (i = 9 ∧ c = 1) := by omega
        by_cases hs : c < 128
        · have hR : R = (n + c.toNat * 128 ^ i, i + 1, 0) := by have := HG3.out; rw [if_pos hs] at this; exact this.symm
          have hroom : c.toNat * 128 ^ i < 18446744073709551616 := by
            rcases hq with rfl | ⟨_, h, _⟩ | ⟨rfl, rfl⟩
            · exact room_at _ _ (by decide) (by omega)
            · exact room_at _ _ h (by omega)
            · decide
          have hm := shl_wrap c c.toNat i (by omega) hroom
          have hor := or_shl n c.toNat i hi9 hn.out hroom
          obtain ⟨y, hy⟩ : ∃ y : Nat, c.toNat * 128 ^ i = y := ⟨_, rfl⟩
          rw [hy] at hm hor hR
          clear hy hroom
          subst hR
          clear hpi
          rcases hq with h0 | ⟨h1, h2, h3⟩ | ⟨h9, hc1'⟩
          · have h0' : i ≤ 0 := by omega
            have h9 : ((i : Int) == 9) = false := by rw [beq_eq_false_iff_ne]; omega
            clear h0
            go_wp2
            go_ret3
            exact ⟨by simp; omega, rfl⟩
          · have hz : (c == 0) = false := by rw [beq_eq_false_iff_ne]; omega
            have h9 : ((i : Int) == 9) = false := by rw [beq_eq_false_iff_ne]; omega
            clear h2 h3
            go_wp2
            go_ret3
            exact ⟨by simp; omega, rfl⟩
          · have h0 : 0 < i := by omega
            have h9' : ((i : Int) == 9) = true := by rw [beq_iff_eq]; omega
            have hz : (c == 0) = false := by rw [beq_eq_false_iff_ne]; omega
            have hc2 : c ≤ 1 := by omega
            clear h9 hc1'
            go_wp2
            go_ret3
            exact ⟨by simp; omega, rfl⟩
        · have hi8 : i < 9 := by omega
          have hand := and127 c hc0 hc1
          have hroom : (c.toNat - 128) * 128 ^ i < 18446744073709551616 := room_at _ _ hi8 (by omega)
          have hm := shl_wrap (c % 128) (c.toNat - 128) i (by omega) hroom
          have hor := or_shl n (c.toNat - 128) i hi9 hn.out hroom
          have hnext : n + (c.toNat - 128) * 128 ^ i < 128 ^ (i + 1) := by
            have h1 := hn.out
            have h2 : (c.toNat - 128 + 1) * 128 ^ i ≤ 128 * 128 ^ i := Nat.mul_le_mul_right _ (by omega)
            rw [pow128, Nat.add_mul] at *
            omega
          have hg4 := HG3.out
          rw [if_neg hs] at hg4
          obtain ⟨y, hy⟩ : ∃ y : Nat, (c.toNat - 128) * 128 ^ i = y := ⟨_, rfl⟩
          rw [hy] at hm hor hnext hg4
          have HNX := Lib.hid hnext
          have HG4 := Lib.hid hg4
          clear hy hnext hg4 hroom hpi
          rcases hq with h0 | ⟨h1, h2, h3⟩ | ⟨rfl, rfl⟩
          · have h0' : i ≤ 0 := by omega
            have h9 : ((i : Int) == 9) = false := by rw [beq_eq_false_iff_ne]; omega
            clear h0
            go_wp2
            go_round
            case rel => exact ⟨i + 1, n + y, by simp, by simp, by omega, by omega, HNX, HG4⟩
            case measure => simp [intOf]; omega
          · have hz : (c == 0) = false := by rw [beq_eq_false_iff_ne]; omega
            have h9 : ((i : Int) == 9) = false := by rw [beq_eq_false_iff_ne]; omega
            clear h3
            go_wp2
            go_round
            case rel => exact ⟨i + 1, n + y, by simp, by simp, by omega, by omega, HNX, HG4⟩
            case measure => simp [intOf]; omega
          · omega
    · obtain rfl : i = b.length - p := by omega
      go_wp2
      go_ret3
      have := hg.out
      rw [← HD.out, List.drop_length, getL] at this
      subst this
      refine ⟨?_, rfl⟩
      have e : (b.length : Int) = (p : Int) + (l.length : Int) := by rw [HD.out]; omega
      simp [e]

set_option maxRecDepth 100000 in
set_option maxHeartbeats 4000000 in
theorem get_bad (A0 : Option Addr) (c0 : Nat) (b : List Int) (p : Int) (w : World) (hp : p < 0 ∨ (b.length : Int) < p) :
    Calls Try.prog 91 #[.slice A0 b.length c0, .int .i64 p] w fun e w' => e = .returned (.tuple #[.int .u64 0, .int .i64 0, .int .i64 1]) ∧ w = w' := by
  by_cases h0 : p < 0
  · clear hp
    go_enter Try.func91, Try.ntmps91
    go_wp2
    go_ret3
    exact ⟨rfl, rfl⟩
  · have h1 : 0 ≤ p := by omega
    have h2 : (b.length : Int) < p := by omega
    clear hp h0
    go_enter Try.func91, Try.ntmps91
    go_wp2
    go_ret3
    exact ⟨rfl, rfl⟩

theorem get_any (A0 : Option Addr) (c0 : Nat) (b : List Int) (p : Int) (w : World) (hr : Kd.C (Kd.int .u8) w A0 b.length b) (hc : b.length ≤ c0) (hB : areBytesN b = true) :
    Calls Try.prog 91 #[.slice A0 b.length c0, .int .i64 p] w fun e w' => e = .returned (.tuple #[.int .u64 (getF b p).1, .int .i64 (getF b p).2.1, .int .i64 (getF b p).2.2]) ∧ w = w' := by
  unfold getF
  by_cases h : p < 0 ∨ (b.length : Int) < p
  · rw [if_pos h]; exact get_bad A0 c0 b p w h
  · rw [if_neg h]
    obtain ⟨q, rfl⟩ : ∃ q : Nat, p = (q : Int) := ⟨p.toNat, by omega⟩
    exact get_at A0 c0 b q w hr hc hB (by omega)

/-! ### The form in which the texts written by wip/tools/ppatch.py call it -/
def quad_Get.f (l0 : List Int) (a1 : Int) : Option (Int × Int × Int) := if areBytesN l0 = true then some (getF l0 a1) else none
end Go.Proofs.Ytmbnjgnmblgjoaa.Man
end

-- More
section
/- sum.More of the given program: what it comes to, for every sum (of uint32's range) and every row of bytes. Conditions: the row reads as_ bytes; the sum lies in uint32's range. -/





















namespace Go.Proofs.Ytmbnjgnmblgjoaa.Man
open Go.RowKit Go.Proofs.YtmbnjgnmblgjoaaW.PrintWords Go.Proofs.YtmbnjgnmblgjoaaW.PrintLast
set_option linter.unusedVariables false
set_option linter.unusedSimpArgs false

/-- All are bytes. -/
def areBytes (l : List Int) : Bool := l.all fun c => decide (0 ≤ c ∧ c ≤ 255)
theorem getD_lt {l : List Int} {k : Nat} (hk : k < l.length) : l.getD k 0 = l[k] := by simp [List.getD, hk]
theorem areBytes_get {l : List Int} (h : areBytes l = true) {k : Nat} (hk : k < l.length) : 0 ≤ l.getD k 0 ∧ l.getD k 0 ≤ 255 := by
  unfold areBytes at h
  rw [List.all_eq_true] at h
  have := h (l.getD k 0) (by rw [getD_lt hk]; exact List.getElem_mem hk)
  simpa using this

/-- The numbers of sum.More's loop, one byte more. -/
def mstep (x y : Int) (i : Nat) (c : Int) : Int × Int :=
  if i % 1000 = 999 then ((x + c) % 65521, (y + (x + c)) % 65521) else (x + c, y + (x + c))
/-- .. all bytes from place i on. -/
def mrun : List Int → Nat → Int → Int → Int × Int
  | [], _, x, y => (x, y)
  | c :: l, i, x, y => mrun l (i + 1) (mstep x y i c).1 (mstep x y i c).2
theorem mrun_at {l : List Int} {k : Nat} (hk : k < l.length) (x y : Int) : mrun (l.drop k) k x y = mrun (l.drop (k + 1)) (k + 1) (mstep x y k (l.getD k 0)).1 (mstep x y k (l.getD k 0)).2 := by
  rw [List.drop_eq_getElem_cons hk, mrun, getD_lt hk]
def mbd (k : Nat) (x y : Int) : Prop := 0 ≤ x ∧ x ≤ 65520 + 255 * ((k % 1000 : Nat) : Int) ∧ 0 ≤ y ∧ y ≤ 65520 + 330000 * ((k % 1000 : Nat) : Int)
theorem mbd_next {k : Nat} {x y c : Int} (h : mbd k x y) (h0 : 0 ≤ c) (h1 : c ≤ 255) : mbd (k + 1) (mstep x y k c).1 (mstep x y k c).2 := by
  unfold mbd at *
  unfold mstep
  split
  · have : (k + 1) % 1000 = 0 := by omega
    simp only [this]; omega
  · have : ((k + 1) % 1000 : Nat) = k % 1000 + 1 := by omega
    simp only [this]; omega

theorem Boxed.below {W W' : World} {B n : Nat} {t : TypeId} {v : Value} (h : Boxed W B t v) (hb : Below n W W') (hn : B < n) : Boxed W' B t v := (hb.block B hn).trans h

set_option maxHeartbeats 800000 in
theorem add_any (c x y : Int) (bx by_ : Nat) (w : World) (hne : bx ≠ by_) (hx : Boxed w bx 90 (.int .u64 x)) (hy : Boxed w by_ 90 (.int .u64 y))
    (h0 : 0 ≤ x) (h1 : x ≤ 1000000) (h2 : 0 ≤ y) (h3 : y ≤ 1000000000) (h4 : 0 ≤ c) (h5 : c ≤ 255) :
    Calls Try.prog 161 #[.int .u8 c, .pointer (some ⟨bx, 0, none⟩), .pointer (some ⟨by_, 0, none⟩)] w fun e w' =>
      e = .returned (.tuple #[]) ∧ w' = (w.setCell ⟨bx, 0, none⟩ (.int .u64 (x + c))).setCell ⟨by_, 0, none⟩ (.int .u64 (y + (x + c))) := by
  have cx := hx.cell
  have fx := hx.frozen
  have cy := hy.cell
  have fy := hy.frozen
  go_enter Try.func161, Try.ntmps161
  go_wp2
  go_end0
  exact ⟨rfl, rfl⟩

/-- The two parts of a sum, and the sum of parts. -/
def partA (s : Int) : Int := (s % 65536) % 65521
def partB (s : Int) : Int := (s / 65536) % 65521
def joinP (a b : Int) : Int := (b % 65521) * 65536 + a % 65521

theorem and_low (s : Int) (h0 : 0 ≤ s) (h1 : s < 4294967296) : Go.bits .and .u32 s 65535 = s % 65536 :=
  bits_mask .u32 32 (by decide) (fun n a b => by rw [IntKind.wrap_u32]; omega) 16 (by decide) s h0 h1
theorem or_join (b a : Int) (h0 : 0 ≤ b) (h1 : b < 65536) (h2 : 0 ≤ a) (h3 : a < 65536) : Go.bits .or .u64 (b * 65536) a = b * 65536 + a := by
  refine bits_join .u64 32 (by decide) (fun n a b => ?_) 16 (b * 65536) a ?_ ?_ ?_ h2 ?_ ?_
  · have b' : n < 4294967296 := b
    rw [IntKind.wrap_u64]; omega
  · omega
  · show b * 65536 % 65536 = 0
    omega
  · show b * 65536 < 4294967296
    omega
  · exact h3
  · show a < 4294967296
    omega

theorem rest32 (a : Int) (w : World) (h0 : 0 ≤ a) (h1 : a < 4294967296) :
    Calls Try.prog 167 #[.int .u32 a] w fun e w' => e = .returned (.int .u64 (a % 65521)) ∧ w = w' := by
  go_enter Try.func167, Try.ntmps167
  go_wp2
  go_ret
  exact ⟨rfl, rfl⟩
theorem rest64 (a : Int) (w : World) (h0 : 0 ≤ a) (h1 : a < 18446744073709551616) :
    Calls Try.prog 162 #[.int .u64 a] w fun e w' => e = .returned (.int .u64 (a % 65521)) ∧ w = w' := by
  go_enter Try.func162, Try.ntmps162
  go_wp2
  go_ret
  exact ⟨rfl, rfl⟩
theorem parts_any (s : Int) (w : World) (h0 : 0 ≤ s) (h1 : s < 4294967296) :
    Calls Try.prog 160 #[.int .u32 s] w fun e w' => e = .returned (.tuple #[.int .u64 (partA s), .int .u64 (partB s)]) ∧ w = w' := by
  have e1 := and_low s h0 h1
  go_enter Try.func160, Try.ntmps160
  go_wp2_with (go_at_call 167; refine (rest32 _ _ (by omega) (by omega)).mono ?_; rintro e w' ⟨rfl, rfl⟩)
  go_ret2
  exact ⟨rfl, rfl⟩
theorem join_any (a b : Int) (w : World) (h0 : 0 ≤ a) (h1 : a < 18446744073709551616) (h2 : 0 ≤ b) (h3 : b < 18446744073709551616) :
    Calls Try.prog 163 #[.int .u64 a, .int .u64 b] w fun e w' => e = .returned (.int .u32 (joinP a b)) ∧ w = w' := by
  have e1 := or_join (b % 65521) (a % 65521) (by omega) (by omega) (by omega) (by omega)
  go_enter Try.func163, Try.ntmps163
  go_wp2_with (go_at_call 162; refine (rest64 _ _ (by omega) (by omega)).mono ?_; rintro e w' ⟨rfl, rfl⟩)
  go_ret
  exact ⟨by unfold joinP; rfl, rfl⟩

/-- sum.More. -/
def moreF (s : Int) (l : List Int) : Int := joinP (mrun l 0 (partA s) (partB s)).1 (mrun l 0 (partA s) (partB s)).2

set_option maxHeartbeats 4000000 in
set_option maxRecDepth 100000 in
theorem more_any (s : Int) (A : Option Addr) (c : Nat) (l : List Int) (w : World) (hr : Kd.C (Kd.int .u8) w A l.length l) (hB : areBytes l = true) (h0 : 0 ≤ s) (h1 : s < 4294967296) :
    Calls Try.prog 142 #[.int .u32 s, .slice A l.length c] w fun e w' => e = .returned (.int .u32 (moreF s l)) ∧ Below w.heap.size w w' := by
  have hmf : ∀ (fn : Fn) (first cap : Array Value) (w : World), (Instr.makeFunc fn first cap).run Try.prog w = .ok (.func fn first cap) w := fun _ _ _ _ => rfl
  have hlen : l.length ≤ 9223372036854775807 := hr.2.1
  have HR := Lib.hid hr
  have HB := Lib.hid hB
  clear hr hB
  go_enter Try.func142, Try.ntmps142
  go_wp2_with (go_at_call 160; refine (parts_any _ _ (by omega) (by omega)).mono ?_; rintro e w' ⟨rfl, rfl⟩)
  have hs0 : mbd 0 (partA s) (partB s) := by unfold mbd partA partB; omega
  go_loopw [18] (fun i wr => ∃ (k : Nat) (x y : Int), k ≤ l.length ∧ i = .int .i64 k ∧ mbd k x y ∧ Hid (mrun (l.drop k) k x y = mrun l 0 (partA s) (partB s)) ∧ Boxed wr w.heap.size 90 (.int .u64 x) ∧ Boxed wr (w.heap.size + 1) 90 (.int .u64 y) ∧ Below w.heap.size w wr)
    (fun i _ => l.length - (intOf i).toNat)
  case atStart =>
    refine ⟨0, _, _, Nat.zero_le _, rfl, hs0, Lib.hid rfl, (Boxed.new w _ _).alloc _, ?_, ((Below.refl _ _).alloc (Nat.le_refl _) _).alloc (by simp) _⟩
    have := Boxed.new (w.alloc (.cells #[.int .u64 (partA s)] 90)) 90 (.int .u64 (partB s))
    rwa [World.size_alloc] at this
  case round =>
    clear hs0
    obtain ⟨k, x, y, hk, rfl, hbd, hrun, hx, hy, hbel⟩ := hrel
    have cx := hx.cell
    have fx := hx.frozen
    have cy := hy.cell
    have fy := hy.frozen
    by_cases hlt : k < l.length
    · obtain ⟨ad, rfl, hcell⟩ := Kd.at_int (Kd.C_below HR.out (by simpa using hbel)) (k : Int) (by omega) (by omega)
      obtain ⟨hc0, hc1⟩ := areBytes_get HB.out hlt
      have hrd : rd l (k : Int) = l.getD k 0 := rfl
      rw [hrd, Int.toNat_natCast] at hcell
      have hn := mbd_next hbd hc0 hc1
      have hrn := mrun_at hlt x y
      obtain ⟨v, hv⟩ : ∃ v, l.getD k 0 = v := ⟨_, rfl⟩
      rw [hv] at hcell hc0 hc1 hn hrn
      clear hrd hv
      have hx0 : 0 ≤ x ∧ x ≤ 1000000 ∧ 0 ≤ y ∧ y ≤ 1000000000 := by unfold mbd at hbd; omega
      obtain ⟨hx0, hx1, hy0, hy1⟩ := hx0
      have HN := Lib.hid hn
      have HRN := Lib.hid hrn
      clear hn hrn hbd
      by_cases h9 : k % 1000 = 999
      · have hd9 : ((k : Int) % 1000 == 999) = true := by rw [beq_iff_eq]; omega
        go_wp2_with (go_at_call 161; refine (add_any _ _ _ _ _ _ (by omega) hx hy hx0 hx1 hy0 hy1 hc0 hc1).mono ?_; rintro e w' ⟨rfl, rfl⟩)
        have hnn : w.heap.size ≠ w.heap.size + 1 := by omega
        have ix := (hx.set (.int .u64 (x + v))).other hnn (.int .u64 (y + (x + v)))
        have iy := (hy.other hnn.symm (.int .u64 (x + v))).set (.int .u64 (y + (x + v)))
        have hbel2 := (hbel.setCell (p := ⟨w.heap.size, 0, none⟩) (Nat.le_refl _) (.int .u64 (x + v))).setCell (p := ⟨w.heap.size + 1, 0, none⟩) (by simp) (.int .u64 (y + (x + v)))
        obtain ⟨W2, hW2⟩ : ∃ W2, (wr.setCell ⟨w.heap.size, 0, none⟩ (.int .u64 (x + v))).setCell ⟨w.heap.size + 1, 0, none⟩ (.int .u64 (y + (x + v))) = W2 := ⟨_, rfl⟩
        rw [hW2] at ix iy hbel2 ⊢
        clear hW2 cx cy fx fy hx hy hbel
        have cx := ix.cell
        have fx := ix.frozen
        have cy := iy.cell
        have fy := iy.frozen
        go_still_tail 4, (by kernel_rfl)
        still_call ((rest64 _ _ (by omega) (by omega)).mono (fun _ _ h => ⟨h.1, h.2.symm⟩))
        repeat still_step
        still_call ((rest64 _ _ (by omega) (by omega)).mono (fun _ _ h => ⟨h.1, h.2.symm⟩))
        refine wpStill_nil ?_
        change wpList _ _ _ _ _ W2.drew
        have hbel3 := hbel2.drew
        have jx : Boxed W2.drew w.heap.size 90 (.int .u64 (x + v)) := ix
        have jy : Boxed W2.drew (w.heap.size + 1) 90 (.int .u64 (y + (x + v))) := iy
        clear cx cy fx fy ix iy hbel2
        generalize W2.drew = W3 at *
        have cx := jx.cell
        have fx := jx.frozen
        have cy := jy.cell
        have fy := jy.frozen
        go_wp2
        go_roundw
        case rel =>
          refine ⟨k + 1, _, _, by omega, by go_num, HN.out, Lib.hid (HRN.out.symm.trans hrun.out), ?_, ?_, (hbel3.setCell (Nat.le_refl _) _).setCell (by simp) _⟩
          · rw [mstep, if_pos h9]; exact (jx.set _).other hnn _
          · rw [mstep, if_pos h9]; exact (jy.other hnn.symm _).set _
        case measure => simp [intOf]; omega
      · have hd9 : ((k : Int) % 1000 == 999) = false := by rw [beq_eq_false_iff_ne]; omega
        go_wp2_with (go_at_call 161; refine (add_any _ _ _ _ _ _ (by omega) hx hy hx0 hx1 hy0 hy1 hc0 hc1).mono ?_; rintro e w' ⟨rfl, rfl⟩)
        go_roundw
        case rel =>
          have hnn : w.heap.size ≠ w.heap.size + 1 := by omega
          refine ⟨k + 1, _, _, by omega, by go_num, HN.out, Lib.hid (HRN.out.symm.trans hrun.out), ?_, ?_, (hbel.setCell (Nat.le_refl _) _).setCell (by simp) _⟩
          · rw [mstep, if_neg h9]; exact (hx.set _).other hnn _
          · rw [mstep, if_neg h9]; exact (hy.other hnn.symm _).set _
        case measure => simp [intOf]; omega
    · obtain rfl : k = l.length := by omega
      go_wp2_with (go_at_call 163; refine (join_any _ _ _ (by unfold mbd at hbd; omega) (by unfold mbd at hbd; omega) (by unfold mbd at hbd; omega) (by unfold mbd at hbd; omega)).mono ?_; rintro e w' ⟨rfl, rfl⟩)
      go_ret
      refine ⟨?_, hbel⟩
      have := hrun.out
      rw [List.drop_length] at this
      unfold moreF
      rw [← this]; rfl

/-! ### The form in which the texts written by wip/tools/ppatch.py call it -/
def sum_More.f (a0 : Int) (l1 : List Int) : Option Int := if areBytes l1 = true ∧ 0 ≤ a0 ∧ a0 < 4294967296 then some (moreF a0 l1) else none
end Go.Proofs.Ytmbnjgnmblgjoaa.Man
end

-- SumMath
section
/- What sums of bytes are, in plain numbers: the two parts modulo 65521, of bytes behind bytes, of two rows joined. No condition but that the numbers are bytes where that is named. -/

namespace Go.Proofs.Ytmbnjgnmblgjoaa.Man
open Go.RowKit Go.Proofs.YtmbnjgnmblgjoaaW.PrintWords Go.Proofs.YtmbnjgnmblgjoaaW.PrintLast
set_option linter.unusedVariables false
set_option linter.unusedSimpArgs false

/-- The two parts, not reduced. -/
def U : List Int → Int → Int → Int × Int
  | [], x, y => (x, y)
  | c :: l, x, y => U l (x + c) (y + (x + c))
def S : List Int → Int
  | [] => 0
  | c :: l => c + S l

/-- Numbers that agree modulo the prime, in one word. -/
def Eqp (a b : Int) : Prop := a % 65521 = b % 65521
theorem Eqp.refl (a : Int) : Eqp a a := rfl
theorem Eqp.symm {a b : Int} (h : Eqp a b) : Eqp b a := Eq.symm h
theorem Eqp.trans {a b c : Int} (h : Eqp a b) (k : Eqp b c) : Eqp a c := Eq.trans h k
theorem Eqp.add {a b c d : Int} (h : Eqp a b) (k : Eqp c d) : Eqp (a + c) (b + d) := by unfold Eqp at *; omega
theorem joinP_range (a b : Int) : 0 ≤ joinP a b ∧ joinP a b < 4294967296 := by unfold joinP; omega
theorem moreF_range (s : Int) (l : List Int) : 0 ≤ moreF s l ∧ moreF s l < 4294967296 := joinP_range _ _
end Go.Proofs.Ytmbnjgnmblgjoaa.Man
end

-- QuadStr
section
/- Strings made of bytes are told apart by the bytes; sizes. Conditions: the numbers are bytes. -/



namespace Go.Proofs.Ytmbnjgnmblgjoaa.Man
open Go.RowKit Go.Proofs.YtmbnjgnmblgjoaaW.PrintWords Go.Proofs.YtmbnjgnmblgjoaaW.PrintLast Go.Proofs.YtmbnjgnmblgjoaaW.PrintMore
set_option linter.unusedVariables false
set_option linter.unusedSimpArgs false

theorem vb_bytes (n : Nat) : areBytesN (vb n) = true := by
  induction n using Nat.strongRecOn with
  | _ n ih =>
    by_cases hs : n < 128
    · rw [vb_small hs]; simp [areBytesN]; omega
    · rw [vb_great hs]
      simp only [areBytesN, List.all_cons, Bool.and_eq_true, decide_eq_true_eq]
      exact ⟨by omega, ih (n / 128) (by omega)⟩
theorem areBytesN_append {a b : List Int} (ha : areBytesN a = true) (hb : areBytesN b = true) : areBytesN (a ++ b) = true := by
  unfold areBytesN at *; rw [List.all_append, ha, hb]; rfl
theorem areBytesN_take {l : List Int} (h : areBytesN l = true) (k : Nat) : areBytesN (l.take k) = true := by
  unfold areBytesN at *
  rw [List.all_eq_true] at *
  exact fun x hx => h x (List.mem_of_mem_take hx)
theorem vbs_bytes (l : List Int) : areBytesN (vbs l) = true := by
  induction l with
  | nil => rfl
  | cons x l ih => exact areBytesN_append (vb_bytes _) ih

end Go.Proofs.Ytmbnjgnmblgjoaa.Man
end

-- Frame
section
/- Frames (layer 16): the sum of bytes, Wrap, Open of the given program: what each comes to. -/




namespace Go.Proofs.Ytmbnjgnmblgjoaa.Man
open Go.RowKit Go.Proofs.YtmbnjgnmblgjoaaW.PrintWords Go.Proofs.YtmbnjgnmblgjoaaW.PrintLast Go.Proofs.YtmbnjgnmblgjoaaW.PrintMore
set_option linter.unusedVariables false
set_option linter.unusedSimpArgs false
set_option maxRecDepth 100000

theorem info_u8 : (Try.prog.info? 5).map (fun i => (i.zero, i.size, i.bytes)) = some (some (.int .u8 0), 1, 1) := by kernel_rfl

/-- A row of bytes of the call's own. -/
abbrev BR (w : World) (base : Nat) (v : Value) (xs : List Int) : Prop := Kd.R (Kd.int .u8) 5 w base (fun _ => True) v xs
theorem BR.len {w : World} {base : Nat} {v : Value} {xs : List Int} (h : BR w base v xs) : ∃ A c, v = .slice A xs.length c ∧ xs.length ≤ c ∧ Kd.C (Kd.int .u8) w A xs.length xs := Kd.R_reads h
theorem BR.base {w : World} {base : Nat} {v : Value} {xs : List Int} (h : BR w base v xs) {k : Nat} (hk : v.ownBlock = some k) : base ≤ k := own_base (Kd.own_of_R h) k hk
theorem BR.append_ev {ops : Array Oper} {rest : List Oper} {o : Oper} {a : Act} {Q : Exit → Act → World → Prop} {w : World} {base : Nat} {v : Value} {xs ys : List Int} {A : Option Addr} {m c : Nat}
    (h : BR w base v xs) (HR : Kd.C (Kd.int .u8) w A m ys) (hgd : o.guard = none) (s x : Operand) (ho : o.op = .call { callee := .builtin .append, args := #[s, x], argTypes := #[27, 27] })
    (hs : a.eval s = v) (hx : a.eval x = .slice A m c) (hbase : base ≤ w.heap.size) (hl : xs.length + m ≤ 140737488355328)
    (k : ∀ v1 w1, BR w1 base v1 (xs ++ ys) → Below base w w1 → (v1.ownBlock = v.ownBlock ∨ ∃ b, v1.ownBlock = some b ∧ w.heap.size ≤ b) → wpList Try.prog ops Q rest (a.put o.dst v1) w1) : wpList Try.prog ops Q (o :: rest) a w :=
  Kd.R_append_rows (Kd.int .u8) (Rr := (Kd.int .u8).K w) (w0 := w) base hgd s x 27 5 (.int .u8 0) 1 ho Try.underlying27 info_u8 rfl (by decide) (by omega) v xs ys A m c (fun _ => True) (fun _ => False) hs hx h HR (fun _ _ h => h) (fun _ h => h.elim) (fun _ _ => trivial) (Below.refl _ _) hbase (by omega)
    (fun v1 w1 h1 h2 h3 h4 => k v1 w1 h1 h2 h4)
theorem BR.push_ev {ops : Array Oper} {rest : List Oper} {o : Oper} {a : Act} {Q : Exit → Act → World → Prop} {w : World} {base : Nat} {v : Value} {xs : List Int} {y : Int}
    (h : BR w base v xs) (hgd : o.guard = none) (s x : Operand) (ho : o.op = .call { callee := .builtin .append, args := #[s, x], argTypes := #[27, 27] })
    (hs : a.eval s = v) (hx : a.eval x = .slice (some ⟨w.heap.size, 0, none⟩) 1 1) (hbase : base ≤ w.heap.size) (hl : xs.length + 1 ≤ 140737488355328)
    (k : ∀ v1 w1, BR w1 base v1 (xs ++ [y]) → Below base w w1 → (v1.ownBlock = v.ownBlock ∨ ∃ b, v1.ownBlock = some b ∧ w.heap.size ≤ b) → wpList Try.prog ops Q rest (a.put o.dst v1) w1) : wpList Try.prog ops Q (o :: rest) a (w.alloc (.cells #[.int .u8 y] 5)) :=
  Kd.R_append (Kd.int .u8) (w0 := w) base hgd s x 27 5 (.int .u8 0) 1 ho Try.underlying27 info_u8 rfl (by decide) (by omega) v xs y [.int .u8 y] (fun _ => True) (fun _ => False) hs hx rfl (fun _ h => h.elim) (fun _ _ => trivial) h (Below.refl _ _) hbase (by omega)
    (fun v1 w1 h1 h2 h3 h4 => k v1 w1 h1 h2 h4)

/-! ### The sum -/
def sumF (l : List Int) : Int := moreF 1 l
theorem sumF_range (l : List Int) : 0 ≤ sumF l ∧ sumF l < 4294967296 := moreF_range 1 l
theorem of_any (A : Option Addr) (c : Nat) (l : List Int) (w : World) (hr : Kd.C (Kd.int .u8) w A l.length l) (hB : areBytesN l = true) :
    Calls Try.prog 90 #[.slice A l.length c] w fun e w' => e = .returned (.int .u32 (sumF l)) ∧ Below w.heap.size w w' := by
  have HR := Lib.hid hr
  have HB := Lib.hid hB
  clear hr hB
  go_enter Try.func90, Try.ntmps90
  go_wp2_with (go_at_call 142; refine (more_any 1 A c l w HR.out HB.out (by decide) (by decide)).mono ?_; rintro e w1 ⟨rfl, hb⟩; have HW := Lib.hid hb; clear hb)
  go_ret
  exact ⟨rfl, HW.out⟩

/-- A sum's four bytes. -/
def be (s : Int) : List Int := [s / 16777216, s / 65536 % 256, s / 256 % 256, s % 256]
/-- A frame. -/
def frameF (b : List Int) : List Int := vb b.length ++ b ++ be (sumF b)
def wrapF (b : List Int) : List Int × Int := if 65536 < b.length then ([], 2) else (frameF b, 0)

theorem u64_one (n : Nat) (h : n < 18446744073709551616) : areU64 [(n : Int)] = true := by
  unfold areU64; simp; omega
theorem vbs_one (n : Nat) : vbs [(n : Int)] = vb n := by simp [vbs]
/-- A number that a variadic call has boxed. -/
theorem C_box (w : World) (k : IntKind) (n : Int) (t : TypeId) : Kd.C (Kd.int k) (w.alloc (.cells #[.int k n] t)) (some ⟨w.heap.size, 0, none⟩) ([n] : List Int).length [n] :=
  Kd.C_of_reads (d := (0 : Int)) (h1 := fun _ => rfl) ⟨rfl, by simp, fun _ => ⟨_, rfl, fun j hj => by
    obtain rfl : j = 0 := by simp at hj; exact hj
    rw [Addr.add_lit, cell_of_row _ w.heap.size _ _ _ (0, 0) (World.alloc_heap_new w _)]
    rfl⟩⟩
theorem C_nil (w : World) (k : IntKind) : Kd.C (Kd.int k) w none ([] : List Int).length [] := Kd.C_of_reads (d := (0 : Int)) (h1 := fun _ => rfl) ⟨rfl, by simp, fun h => absurd h (by simp)⟩

set_option maxHeartbeats 4000000 in
theorem wrap_any (A0 : Option Addr) (c0 : Nat) (b : List Int) (w : World) (hr : Kd.C (Kd.int .u8) w A0 b.length b) (hB : areBytesN b = true) :
    Calls Try.prog 21 #[.slice A0 b.length c0] w fun e w' => ∃ v, e = .returned (.tuple #[v, .int .i64 (wrapF b).2]) ∧ BR w' w.heap.size v (wrapF b).1 ∧ Below w.heap.size w w' := by
  have hl63 : b.length ≤ 9223372036854775807 := hr.2.1
  have HR := Lib.hid hr
  have HB := Lib.hid hB
  clear hr hB
  unfold wrapF
  by_cases hbig : 65536 < b.length
  · rw [if_pos hbig]
    go_enter Try.func21, Try.ntmps21
    go_wp2
    go_ret2
    exact ⟨_, rfl, Kd.R_nil _ _ _ _ _, Below.refl _ _⟩
  rw [if_neg hbig]
  have h10 : (vb b.length).length ≤ 10 := vb_le_ten (by omega)
  have HN := Lib.hid (C_box w .u64 (b.length : Int) 90)
  have hbe : Below w.heap.size w (w.alloc (.cells #[.int .u64 (b.length : Int)] 90)) := (Below.refl _ _).alloc (Nat.le_refl _) _
  have HE := Lib.hid hbe
  have HNil := Lib.hid (C_nil (w.alloc (.cells #[.int .u64 (b.length : Int)] 90)) .u8)
  have hU : IntKind.u64.wrap (b.length : Int) = (b.length : Int) := by rw [IntKind.wrap_u64]; omega
  clear hbe
  go_enter Try.func21, Try.ntmps21
  go_wp2_with (first
    | (go_at_call 89; refine (put_any none (some ⟨w.heap.size, 0, none⟩) 0 1 [] [(b.length : Int)] _ HNil.out HN.out (u64_one _ (by omega)) (by rw [vbs_one, List.nil_append]; omega)).mono ?_; rintro e w1 ⟨v1, rfl, hr1, hb1⟩; rw [vbs_one, List.nil_append] at hr1; obtain ⟨A1, k1, rfl, hk1, _⟩ := BR.len hr1; have HR1 := Lib.hid hr1; have HB1 := Lib.hid (HE.out.trans (hb1.mono HE.out.size)); have hz1 : w.heap.size ≤ w1.heap.size := HB1.out.size; clear hr1 hb1 hk1)
    | (at_builtin; refine BR.append_ev (w := w1) (Kd.R_lower HR1.out HE.out.size) (Kd.C_below HR.out HB1.out) rfl (.tmp 14) (.tmp 15) rfl rfl rfl HB1.out.size (by omega) ?_; intro v2 w2 hr2 hb2 hat; obtain ⟨ys, hys⟩ : ∃ ys, vb b.length ++ b = ys := ⟨_, rfl⟩; rw [hys] at hr2; have hyl : ys.length ≤ 65546 := (by rw [← hys, List.length_append]; omega); have HYS := Lib.hid hys; clear hys; obtain ⟨A2, k2, rfl, hk2, _⟩ := BR.len hr2; have HR2 := Lib.hid hr2; have HB2 := Lib.hid (HB1.out.trans hb2); clear hr2 hb2 hat hk2)
    | (go_at_call 90; refine (of_any A0 c0 b _ (Kd.C_below HR.out HB2.out) HB.out).mono ?_; rintro e w3 ⟨rfl, hb⟩; have HR3 := Lib.hid (Kd.R_below HR2.out hb); have HB3 := Lib.hid (HB2.out.trans (hb.mono HB2.out.size)); clear hb))
  obtain ⟨hs0, hs1⟩ := sumF_range b
  obtain ⟨s, hs⟩ : ∃ s, sumF b = s := ⟨_, rfl⟩
  rw [hs] at hs0 hs1
  rw [hs]
  have HS := Lib.hid hs
  clear hs
  go_loopg [4, 6] 5 (fun g s4 s6 wr => ∃ i : Nat, g = 5 - i ∧ ((i = 0 ∧ s6 = .int .i64 24) ∨ (i = 1 ∧ s6 = .int .i64 16) ∨ (i = 2 ∧ s6 = .int .i64 8) ∨ (i = 3 ∧ s6 = .int .i64 0) ∨ (i = 4 ∧ s6 = .int .i64 (-8))) ∧ Hid (BR wr w.heap.size s4 (ys ++ (be s).take i)) ∧ Hid (Below w.heap.size w wr))
  case atStart => exact ⟨0, rfl, .inl ⟨rfl, rfl⟩, Lib.hid (by simpa using HR3.out), HB3⟩
  case round =>
    clear HR3 HB3
    obtain ⟨i, hg, hi, HR4, HB4⟩ := hrel
    rcases hi with ⟨rfl, rfl⟩ | ⟨rfl, rfl⟩ | ⟨rfl, rfl⟩ | ⟨rfl, rfl⟩ | ⟨rfl, rfl⟩
    · go_wp2_with (at_builtin; go_must (refine BR.push_ev (w := wr) (y := s / 16777216) HR4.out rfl (.tmp 23) (.tmp 28) rfl rfl rfl HB4.out.size (by rw [List.length_append, List.length_take]; omega) ?_; intro v5 w5 hr5 hb5 hat; have HR5 := Lib.hid hr5; have HB5 := Lib.hid (HB4.out.trans hb5); clear hr5 hb5 hat))
      go_roundg 4
      case measure => omega
      case rel => exact ⟨1, by omega, by simp, Lib.hid (by have := HR5.out; rw [List.append_assoc] at this; exact this), HB5⟩
    · go_wp2_with (at_builtin; go_must (refine BR.push_ev (w := wr) (y := s / 65536 % 256) HR4.out rfl (.tmp 23) (.tmp 28) rfl rfl rfl HB4.out.size (by rw [List.length_append, List.length_take]; omega) ?_; intro v5 w5 hr5 hb5 hat; have HR5 := Lib.hid hr5; have HB5 := Lib.hid (HB4.out.trans hb5); clear hr5 hb5 hat))
      go_roundg 3
      case measure => omega
      case rel => exact ⟨2, by omega, by simp, Lib.hid (by have := HR5.out; rw [List.append_assoc] at this; exact this), HB5⟩
    · go_wp2_with (at_builtin; go_must (refine BR.push_ev (w := wr) (y := s / 256 % 256) HR4.out rfl (.tmp 23) (.tmp 28) rfl rfl rfl HB4.out.size (by rw [List.length_append, List.length_take]; omega) ?_; intro v5 w5 hr5 hb5 hat; have HR5 := Lib.hid hr5; have HB5 := Lib.hid (HB4.out.trans hb5); clear hr5 hb5 hat))
      go_roundg 2
      case measure => omega
      case rel => exact ⟨3, by omega, by simp, Lib.hid (by have := HR5.out; rw [List.append_assoc] at this; exact this), HB5⟩
    · go_wp2_with (at_builtin; go_must (refine BR.push_ev (w := wr) (y := s % 256) HR4.out rfl (.tmp 23) (.tmp 28) rfl rfl rfl HB4.out.size (by rw [List.length_append, List.length_take]; omega) ?_; intro v5 w5 hr5 hb5 hat; have HR5 := Lib.hid hr5; have HB5 := Lib.hid (HB4.out.trans hb5); clear hr5 hb5 hat))
      go_roundg 1
      case measure => omega
      case rel => exact ⟨4, by omega, by simp, Lib.hid (by have := HR5.out; rw [List.append_assoc] at this; exact this), HB5⟩
    · go_wp2
      go_ret2
      refine ⟨_, rfl, ?_, HB4.out⟩
      show BR wr w.heap.size _ (vb b.length ++ b ++ be (sumF b))
      rw [HYS.out, HS.out]
      exact HR4.out


/-! ### Open -/
theorem getL_off (l : List Int) : ∀ (i n : Nat), i ≤ (getL l i n).2.1 ∧ (getL l i n).2.1 ≤ i + l.length ∧ ((getL l i n).2.2 = 0 ∨ (getL l i n).2.2 = 3 ∨ (getL l i n).2.2 = 4) := by
  induction l with
  | nil => intro i n; simp [getL]
  | cons c l ih =>
    intro i n
    rw [getL]
    split
    · simp
    · split
      · simp
      · have := ih (i + 1) (n + (c.toNat - 128) * 128 ^ i)
        simp only [List.length_cons]
        refine ⟨by omega, by omega, this.2.2⟩
theorem or_byte (a c : Int) (h0 : 0 ≤ a) (h1 : a < 16777216) (h2 : 0 ≤ c) (h3 : c ≤ 255) : Go.bits .or .u32 (a * 256) c = a * 256 + c := by
  refine bits_join .u32 32 (by decide) (fun n a b => ?_) 8 (a * 256) c ?_ ?_ ?_ h2 ?_ ?_
  · have b' : n < 4294967296 := b
    rw [IntKind.wrap_u32]; omega
  · omega
  · show a * 256 % 256 = 0
    omega
  · show a * 256 < 4294967296
    omega
  · show c < 256
    omega
  · show c < 4294967296
    omega
/-- The number of four bytes. -/
def be4 (l : List Int) : Int := ((l.getD 0 0 * 256 + l.getD 1 0) * 256 + l.getD 2 0) * 256 + l.getD 3 0
/-- The bytes from a place up to another. -/
def mid (b : List Int) (i j : Int) : List Int := (b.take j.toNat).drop i.toNat
def openF (b : List Int) (at_ : Int) : List Int × Int × Int :=
  if (getF b at_).2.2 ≠ 0 then ([], at_, (getF b at_).2.2)
  else if 65536 < (getF b at_).1 then ([], at_, 4)
  else if (b.length : Int) - (getF b at_).2.1 < (getF b at_).1 + 4 then ([], at_, 3)
  else if be4 (mid b ((getF b at_).2.1 + (getF b at_).1) ((getF b at_).2.1 + (getF b at_).1 + 4)) ≠ sumF (mid b (getF b at_).2.1 ((getF b at_).2.1 + (getF b at_).1)) then ([], at_, 10)
  else (mid b (getF b at_).2.1 ((getF b at_).2.1 + (getF b at_).1), (getF b at_).2.1 + (getF b at_).1 + 4, 0)
theorem getF_range (b : List Int) (at_ : Int) (hB : areBytesN b = true) (h : (getF b at_).2.2 = 0) : 0 ≤ at_ ∧ at_ ≤ (getF b at_).2.1 ∧ (getF b at_).2.1 ≤ b.length ∧ 0 ≤ (getF b at_).1 := by
  unfold getF at h ⊢
  by_cases hb : at_ < 0 ∨ (b.length : Int) < at_
  · rw [if_pos hb] at h; cases h
  · rw [if_neg hb]
    have := getL_off (b.drop at_.toNat) 0 0
    rw [List.length_drop] at this
    simp only
    omega

set_option maxHeartbeats 4000000 in
theorem open_any (A0 : Option Addr) (c0 : Nat) (b : List Int) (at_ : Int) (w : World) (hr : Kd.C (Kd.int .u8) w A0 b.length b) (hc : b.length ≤ c0) (hB : areBytesN b = true) (hl : b.length ≤ 140737488355328) :
    Calls Try.prog 22 #[.slice A0 b.length c0, .int .i64 at_] w fun e w' => ∃ v, e = .returned (.tuple #[v, .int .i64 (openF b at_).2.1, .int .i64 (openF b at_).2.2]) ∧ BR w' w.heap.size v (openF b at_).1 ∧ Below w.heap.size w w' := by
  have hg := getF_range b at_ hB
  have HR := Lib.hid hr
  have HB := Lib.hid hB
  have HG := Lib.hid (get_any A0 c0 b at_ w hr hc hB)
  clear hr hB
  obtain ⟨R, hR⟩ : ∃ R, openF b at_ = R := ⟨_, rfl⟩
  rw [hR]
  unfold openF at hR
  obtain ⟨g, hgd⟩ : ∃ g, getF b at_ = g := ⟨_, rfl⟩
  rw [hgd] at hg HG hR
  have HGD := Lib.hid hgd
  clear hgd
  obtain ⟨n, nx, er⟩ := g
  simp only at hg HG hR
  by_cases h0 : er ≠ 0
  · have h0b : (er != 0) = true := by simpa using h0
    rw [if_pos h0] at hR
    subst hR
    clear h0 hg
    go_enter Try.func22, Try.ntmps22
    go_wp2_with (go_at_call 91; refine HG.out.mono ?_; rintro e w1 ⟨rfl, rfl⟩)
    go_ret3
    exact ⟨_, rfl, Kd.R_nil _ _ _ _ _, Below.refl _ _⟩
  obtain rfl : er = 0 := by omega
  obtain ⟨ha, h1, h2, h3⟩ := hg rfl
  clear h0 hg
  rw [if_neg (by simp)] at hR
  by_cases h4 : 65536 < n
  · rw [if_pos h4] at hR
    subst hR
    go_enter Try.func22, Try.ntmps22
    go_wp2_with (go_at_call 91; refine HG.out.mono ?_; rintro e w1 ⟨rfl, rfl⟩)
    go_ret3
    exact ⟨_, rfl, Kd.R_nil _ _ _ _ _, Below.refl _ _⟩
  rw [if_neg h4] at hR
  have hU : IntKind.u64.wrap ((b.length : Int) - nx) = (b.length : Int) - nx := by rw [IntKind.wrap_u64]; omega
  by_cases h5 : (b.length : Int) - nx < n + 4
  · rw [if_pos h5] at hR
    subst hR
    go_enter Try.func22, Try.ntmps22
    go_wp2_with (go_at_call 91; refine HG.out.mono ?_; rintro e w1 ⟨rfl, rfl⟩)
    go_ret3
    exact ⟨_, rfl, Kd.R_nil _ _ _ _ _, Below.refl _ _⟩
  rw [if_neg h5] at hR
  obtain ⟨i0, hi0, hsz⟩ : ∃ i0, Try.prog.info? 5 = some i0 ∧ i0.size = 1 := by obtain ⟨i0, h, _, h2, _⟩ := info_parts info_u8; exact ⟨i0, h, h2⟩
  obtain ⟨Ax, hcx, hAx, hkx⟩ := print_mid_of (P := Try.prog) (Value.int .u8) 0 27 5 .i64 .i64 Try.underlying27 hi0 hsz A0 c0 b nx (nx + n) (by omega) (by omega) (by omega) hc
  obtain ⟨Ay, hcy, hAy, hky⟩ := print_mid_of (P := Try.prog) (Value.int .u8) 0 27 5 .i64 .i64 Try.underlying27 hi0 hsz A0 c0 b (nx + n) (nx + n + 4) (by omega) (by omega) (by omega) hc
  have hCx := Kd.C_of_reads (h1 := fun _ => rfl) (hAx _ (Kd.reads_of_C HR.out))
  have hCy := Kd.C_of_reads (h1 := fun _ => rfl) (hAy _ (Kd.reads_of_C HR.out))
  clear hAx hAy hi0 hsz hkx hky
  have hBx : areBytesN ((b.take (nx + n).toNat).drop nx.toNat) = true := areBytesN_drop (areBytesN_take HB.out _) _
  have hBy : areBytesN ((b.take (nx + n + 4).toNat).drop (nx + n).toNat) = true := areBytesN_drop (areBytesN_take HB.out _) _
  have hly : ((b.take (nx + n + 4).toNat).drop (nx + n).toNat).length = 4 := by rw [List.length_drop, List.length_take]; omega
  have hlx : ((b.take (nx + n).toNat).drop nx.toNat).length ≤ 65536 := by rw [List.length_drop, List.length_take]; omega
  unfold mid at hR
  obtain ⟨x, hx⟩ : ∃ x, (b.take (nx + n).toNat).drop nx.toNat = x := ⟨_, rfl⟩
  obtain ⟨y, hy⟩ : ∃ y, (b.take (nx + n + 4).toNat).drop (nx + n).toNat = y := ⟨_, rfl⟩
  rw [hx] at hCx hcx hBx hlx hR
  rw [hy] at hCy hcy hBy hly hR
  clear hx hy
  match y, hly with
  | [y0, y1, y2, y3], _ =>
  have e0 := getN_get hBy (k := 0) (by simp)
  have e1 := getN_get hBy (k := 1) (by simp)
  have e2 := getN_get hBy (k := 2) (by simp)
  have e3 := getN_get hBy (k := 3) (by simp)
  obtain ⟨ady, ea, cy0⟩ := Kd.at_int hCy 0 (by decide) (by simp)
  obtain ⟨ady1, ea1, cy1⟩ := Kd.at_int hCy 1 (by decide) (by simp)
  obtain ⟨ady2, ea2, cy2⟩ := Kd.at_int hCy 2 (by decide) (by simp)
  obtain ⟨ady3, ea3, cy3⟩ := Kd.at_int hCy 3 (by decide) (by simp)
  subst ea
  cases ea1; cases ea2; cases ea3
  change w.cell? (ady.add 0) = some (.int .u8 y0) at cy0
  change w.cell? (ady.add 1) = some (.int .u8 y1) at cy1
  change w.cell? (ady.add 2) = some (.int .u8 y2) at cy2
  change w.cell? (ady.add 3) = some (.int .u8 y3) at cy3
  change 0 ≤ y0 ∧ y0 ≤ 255 at e0
  change 0 ≤ y1 ∧ y1 ≤ 255 at e1
  change 0 ≤ y2 ∧ y2 ≤ 255 at e2
  change 0 ≤ y3 ∧ y3 ≤ 255 at e3
  obtain ⟨p0, q0⟩ := e0
  obtain ⟨p1, q1⟩ := e1
  obtain ⟨p2, q2⟩ := e2
  obtain ⟨p3, q3⟩ := e3
  have HRR := Lib.hid hR
  clear hR
  have HCX := Lib.hid hCx
  have HBX := Lib.hid hBx
  have HY0 := Lib.hid cy0
  have HY1 := Lib.hid cy1
  have HY2 := Lib.hid cy2
  have HY3 := Lib.hid cy3
  clear hCx hBx hCy hBy cy0 cy1 cy2 cy3 hU
  simp only [List.length_cons, List.length_nil] at hcy
  go_enter Try.func22, Try.ntmps22
  go_wp2_with (first
    | (go_at_call 91; refine HG.out.mono ?_; rintro e w1 ⟨rfl, rfl⟩)
    | (at_builtin; refine BR.append_ev (w := w) (Kd.R_nil _ _ _ w.heap.size _) HCX.out rfl (.const (.slice none 0 0)) (.tmp 47) rfl rfl rfl (Nat.le_refl _) (by simp only [List.length_nil]; omega) ?_; intro v2 w2 hr2 hb2 hat; rw [List.nil_append] at hr2; obtain ⟨A2, k2, rfl, hk2, hC2⟩ := BR.len hr2; have HC2 := Lib.hid hC2; have HR2 := Lib.hid hr2; have HB2 := Lib.hid hb2; clear hr2 hb2 hat hk2 hC2))
  have z0 := pw_cell_below HB2.out HY0.out
  have z1 := pw_cell_below HB2.out HY1.out
  have z2 := pw_cell_below HB2.out HY2.out
  have z3 := pw_cell_below HB2.out HY3.out
  have HZ : Hid (w2.cell? (ady.add 0) = some (.int .u8 y0) ∧ w2.cell? (ady.add 1) = some (.int .u8 y1) ∧ w2.cell? (ady.add 2) = some (.int .u8 y2) ∧ w2.cell? (ady.add 3) = some (.int .u8 y3)) := Lib.hid ⟨z0, z1, z2, z3⟩
  clear z0 z1 z2 z3
  go_loopg [12, 59] 5 (fun g s12 s59 wr => w2 = wr ∧ ((g = 5 ∧ s59 = .int .i64 0 ∧ s12 = .int .u32 0) ∨ (g = 4 ∧ s59 = .int .i64 1 ∧ s12 = .int .u32 y0) ∨ (g = 3 ∧ s59 = .int .i64 2 ∧ s12 = .int .u32 (y0 * 256 + y1)) ∨ (g = 2 ∧ s59 = .int .i64 3 ∧ s12 = .int .u32 ((y0 * 256 + y1) * 256 + y2)) ∨ (g = 1 ∧ s59 = .int .i64 4 ∧ s12 = .int .u32 (((y0 * 256 + y1) * 256 + y2) * 256 + y3))))
  case atStart => exact ⟨rfl, .inl ⟨rfl, rfl, rfl⟩⟩
  case round =>
    obtain ⟨rfl, hrel⟩ := hrel
    rcases hrel with ⟨rfl, rfl, rfl⟩ | ⟨rfl, rfl, rfl⟩ | ⟨rfl, rfl, rfl⟩ | ⟨rfl, rfl, rfl⟩ | ⟨rfl, rfl, rfl⟩
    · have hcell : w2.cell? ady = some (.int .u8 y0) := by simpa [Addr.add] using HZ.out.1
      have hor : Go.bits .or .u32 0 y0 = y0 := by have := or_byte 0 y0 (by omega) (by omega) p0 q0; simpa using this
      go_wp2
      go_roundg 4
      case measure => omega
      case rel => exact ⟨rfl, .inr (.inl ⟨rfl, rfl, by first | rfl | simp⟩)⟩
    · have hcell : w2.cell? ⟨ady.block, ady.off + 1, none⟩ = some (.int .u8 y1) := by simpa [Addr.add] using HZ.out.2.1
      have hor := or_byte y0 y1 (by omega) (by omega) p1 q1
      go_wp2
      go_roundg 3
      case measure => omega
      case rel => exact ⟨rfl, .inr (.inr (.inl ⟨rfl, rfl, by first | rfl | simp⟩))⟩
    · have hcell : w2.cell? ⟨ady.block, ady.off + 2, none⟩ = some (.int .u8 y2) := by simpa [Addr.add] using HZ.out.2.2.1
      have hor := or_byte (y0 * 256 + y1) y2 (by omega) (by omega) p2 q2
      go_wp2
      go_roundg 2
      case measure => omega
      case rel => exact ⟨rfl, .inr (.inr (.inr (.inl ⟨rfl, rfl, by first | rfl | simp⟩)))⟩
    · have hcell : w2.cell? ⟨ady.block, ady.off + 3, none⟩ = some (.int .u8 y3) := by simpa [Addr.add] using HZ.out.2.2.2
      have hor := or_byte ((y0 * 256 + y1) * 256 + y2) y3 (by omega) (by omega) p3 q3
      go_wp2
      go_roundg 1
      case measure => omega
      case rel => exact ⟨rfl, .inr (.inr (.inr (.inr (⟨rfl, rfl, by first | rfl | simp⟩))))⟩
    · have hs := sumF_range x
      obtain ⟨sx, hsx⟩ : ∃ sx, sumF x = sx := ⟨_, rfl⟩
      rw [hsx] at hs
      obtain ⟨hs0, hs1⟩ := hs
      have HSX := Lib.hid hsx
      clear hsx
      obtain ⟨sy, hsy⟩ : ∃ sy, ((y0 * 256 + y1) * 256 + y2) * 256 + y3 = sy := ⟨_, rfl⟩
      rw [hsy]
      have HSY := Lib.hid hsy
      clear hsy
      have hd : R = if sy = sx then (x, nx + n + 4, 0) else ([], at_, 10) := by
        have e : be4 [y0, y1, y2, y3] = sy := HSY.out
        have hR := HRR.out
        rw [e, HSX.out] at hR
        rw [← hR]
        by_cases hh : sy = sx
        · rw [if_pos hh, if_neg (by simpa using hh)]
        · rw [if_neg hh, if_pos hh]
      have HD := Lib.hid hd
      clear hd
      by_cases hne : sy = sx
      · have hne' : (sy != sx) = false := by simpa using hne
        have HNE := Lib.hid hne
        clear hne
        go_wp2_with (go_at_call 90; refine (of_any A2 k2 x _ HC2.out HBX.out).mono ?_; rintro e w3 ⟨rfl, hb⟩; have HR3 := Lib.hid (Kd.R_below HR2.out hb); have HB3 := Lib.hid (HB2.out.trans (hb.mono HB2.out.size)); have hsx := HSX.out; rw [hsx]; clear hb hsx)
        go_ret3
        have hd := HD.out
        rw [if_pos HNE.out] at hd
        subst hd
        exact ⟨_, rfl, HR3.out, HB3.out⟩
      · have hne' : (sy != sx) = true := by simpa using hne
        have HNE := Lib.hid hne
        clear hne
        go_wp2_with (go_at_call 90; refine (of_any A2 k2 x _ HC2.out HBX.out).mono ?_; rintro e w3 ⟨rfl, hb⟩; have HR3 := Lib.hid (Kd.R_below HR2.out hb); have HB3 := Lib.hid (HB2.out.trans (hb.mono HB2.out.size)); have hsx := HSX.out; rw [hsx]; clear hb hsx)
        go_ret3
        have hd := HD.out
        rw [if_neg HNE.out] at hd
        subst hd
        exact ⟨_, rfl, Kd.R_nil _ _ _ _ _, HB3.out⟩

end Go.Proofs.Ytmbnjgnmblgjoaa.Man
end

-- Chunk
section
/- A chunk (layer 32) of the given program: what each of its calls comes to. -/


namespace Go.Proofs.Ytmbnjgnmblgjoaa.Man
open Go.RowKit Go.Proofs.YtmbnjgnmblgjoaaW.PrintWords Go.Proofs.YtmbnjgnmblgjoaaW.PrintLast Go.Proofs.YtmbnjgnmblgjoaaW.PrintMore
set_option linter.unusedVariables false
set_option linter.unusedSimpArgs false
set_option maxRecDepth 100000

def ChunkAt (w : World) (B : Nat) (h : Int) (v : Value) (n : Int) : Prop := w.heap[B]? = some (.cells #[.int .i64 h, v, .int .i64 n] 151 (0, 0))
theorem ChunkAt.c0 {w : World} {B : Nat} {h n : Int} {v : Value} (k : ChunkAt w B h v n) : w.cell? ⟨B, 0, none⟩ = some (.int .i64 h) := by simp [World.cell?, show w.heap[B]? = _ from k]
theorem ChunkAt.c1 {w : World} {B : Nat} {h n : Int} {v : Value} (k : ChunkAt w B h v n) : w.cell? ⟨B, 1, none⟩ = some v := by simp [World.cell?, show w.heap[B]? = _ from k]
theorem ChunkAt.c2 {w : World} {B : Nat} {h n : Int} {v : Value} (k : ChunkAt w B h v n) : w.cell? ⟨B, 2, none⟩ = some (.int .i64 n) := by simp [World.cell?, show w.heap[B]? = _ from k]
theorem ChunkAt.f {w : World} {B : Nat} {h n : Int} {v : Value} (k : ChunkAt w B h v n) (j : Nat) : w.frozen? ⟨B, j, none⟩ = false := by simp [World.frozen?, show w.heap[B]? = _ from k]
theorem ChunkAt.lt {w : World} {B : Nat} {h n : Int} {v : Value} (k : ChunkAt w B h v n) : B < w.heap.size := (Array.getElem?_eq_some_iff.1 k).1
theorem ChunkAt.move {w w1 : World} {B : Nat} {h n : Int} {v : Value} (k : ChunkAt w B h v n) (hm : w1.heap[B]? = w.heap[B]?) : ChunkAt w1 B h v n := hm.trans k

/-- A chunk in block B: open (1) or over (2), the bytes that wait, how many frames were told. -/
structure ChunkS (w : World) (B : Nat) (h : Int) (v : Value) (xs : List Int) (n : Int) : Prop where
  at_ : ChunkAt w B h v n
  row : ∃ A c, v = .slice A xs.length c ∧ xs.length ≤ c ∧ Kd.C (Kd.int .u8) w A xs.length xs
  bytes : areBytesN xs = true
  typ : ∀ k, v.ownBlock = some k → ∃ cur, w.heap[k]? = some (.cells cur 5 (0, 0))
/-- A row that is read: its block stands. -/
theorem C_move {w w1 : World} {A : Option Addr} {n : Nat} {xs : List Int} (hr : Kd.C (Kd.int .u8) w A n xs) (hm : ∀ ad, A = some ad → w1.heap[ad.block]? = w.heap[ad.block]?) : Kd.C (Kd.int .u8) w1 A n xs := by
  have hR := Kd.reads_of_C (enc := Value.int .u8) (d := (0 : Int)) (h1 := fun _ => rfl) hr
  refine Kd.C_of_reads (d := (0 : Int)) (h1 := fun _ => rfl) ⟨hR.1, hR.2.1, fun h0 => ?_⟩
  obtain ⟨ad, e, hc⟩ := hR.2.2 h0
  refine ⟨ad, e, fun j hj => ?_⟩
  rw [← hc j hj]
  have hb : (ad.add j).block = ad.block := by unfold Addr.add; split <;> rfl
  unfold World.cell?
  rw [hb, hm ad e]
theorem ChunkS.grown {w w1 : World} {B : Nat} {h n : Int} {v : Value} {xs : List Int} (k : ChunkS w B h v xs n) {row : Option Nat} (hg : w.grownBy w1 row) (hB : row ≠ some B) (hr : ∀ j, v.ownBlock = some j → row ≠ some j) : ChunkS w1 B h v xs n := by
  obtain ⟨A, c, rfl, h1, h2⟩ := k.row
  have hm : ∀ j, Value.ownBlock (.slice A xs.length c) = some j → w1.heap[j]? = w.heap[j]? := fun j hj => by
    obtain ⟨cur, hc⟩ := k.typ j hj
    exact hg.block j (Array.getElem?_eq_some_iff.1 hc).1 (fun e => hr j hj e.symm)
  refine ⟨k.at_.move (hg.block _ k.at_.lt (fun e => hB e.symm)), ⟨A, c, rfl, h1, C_move h2 fun ad e => hm _ (by rw [e]; rfl)⟩, k.bytes, fun j hj => ?_⟩
  obtain ⟨cur, hc⟩ := k.typ j hj
  exact ⟨cur, (hm j hj).trans hc⟩
theorem ChunkS.below {w w1 : World} {B : Nat} {h n : Int} {v : Value} {xs : List Int} (k : ChunkS w B h v xs n) {m : Nat} (hb : Below m w w1) (hm : w.heap.size ≤ m) : ChunkS w1 B h v xs n := by
  obtain ⟨A, c, e, h1, h2⟩ := k.row
  have hb' : Below w.heap.size w w1 := hb.mono hm
  exact ⟨k.at_.move (hb'.block _ k.at_.lt), ⟨A, c, e, h1, Kd.C_below h2 hb'⟩, k.bytes, fun j hj => by
    obtain ⟨cur, hc⟩ := k.typ j hj
    exact ⟨cur, (hb'.block _ (Array.getElem?_eq_some_iff.1 hc).1).trans hc⟩⟩
/-- Another chunk has acted. -/
theorem ChunkS.other {w w1 : World} {B B' : Nat} {h n h' n' : Int} {v v' : Value} {xs xs' : List Int} (k : ChunkS w B h v xs n) (k' : ChunkS w B' h' v' xs' n') (hne : B ≠ B') (hg : w.grownBy w1 (some B')) : ChunkS w1 B h v xs n :=
  k.grown hg (by simpa using hne.symm) fun j hj e => by
    obtain ⟨cur, hc⟩ := k.typ j hj
    cases e
    rw [show w.heap[B']? = _ from k'.at_] at hc
    cases hc

theorem grownBy_set (w : World) (B k : Nat) (u : Value) {w0 : World} (h : w0.grownBy w (some B)) : w0.grownBy (w.setCell ⟨B, k, none⟩ u) (some B) :=
  ⟨h.os, h.tape, h.output, by simpa [World.setCell] using h.size, fun i hi hne => (Below.heap_setCell w ⟨B, k, none⟩ u i (fun e => hne (by rw [e]))).trans (h.block i hi hne)⟩
def closeE (xs : List Int) : Int := if 0 < xs.length then 3 else 0
end Go.Proofs.Ytmbnjgnmblgjoaa.Man
end

-- Writer
section
/- codec's writer: numbers behind bytes; no tokens' bytes. -/


namespace Go.Proofs.Ytmbnjgnmblgjoaa.Man
open Go.RowKit Go.Proofs.YtmbnjgnmblgjoaaW.PrintWords Go.Proofs.YtmbnjgnmblgjoaaW.PrintLast Go.Proofs.YtmbnjgnmblgjoaaW.PrintMore
set_option linter.unusedVariables false
set_option linter.unusedSimpArgs false
set_option maxRecDepth 100000

def WrAt (w : World) (B : Nat) (v : Value) : Prop := w.heap[B]? = some (.cells #[v] 129 (0, 0))
theorem WrAt.c0 {w : World} {B : Nat} {v : Value} (k : WrAt w B v) : w.cell? ⟨B, 0, none⟩ = some v := by simp [World.cell?, show w.heap[B]? = _ from k]
theorem WrAt.f {w : World} {B : Nat} {v : Value} (k : WrAt w B v) : w.frozen? ⟨B, 0, none⟩ = false := by simp [World.frozen?, show w.heap[B]? = _ from k]
theorem WrAt.lt {w : World} {B : Nat} {v : Value} (k : WrAt w B v) : B < w.heap.size := (Array.getElem?_eq_some_iff.1 k).1
theorem WrAt.put {w : World} {B : Nat} {v : Value} (k : WrAt w B v) (v' : Value) : WrAt (w.setCell ⟨B, 0, none⟩ v') B v' := by
  unfold WrAt World.setCell
  simp [Array.getElem?_modify, show w.heap[B]? = _ from k]
theorem WrAt.below {w w1 : World} {B m : Nat} {v : Value} (k : WrAt w B v) (h : Below m w w1) (hm : w.heap.size ≤ m) : WrAt w1 B v := ((h.mono hm).block _ k.lt).trans k

theorem C_moveK {K : IntKind} {w w1 : World} {A : Option Addr} {n : Nat} {xs : List Int} (hr : Kd.C (Kd.int K) w A n xs) (hm : ∀ ad, A = some ad → w1.heap[ad.block]? = w.heap[ad.block]?) : Kd.C (Kd.int K) w1 A n xs := by
  have hR := Kd.reads_of_C (enc := Value.int K) (d := (0 : Int)) (h1 := fun _ => rfl) hr
  refine Kd.C_of_reads (d := (0 : Int)) (h1 := fun _ => rfl) ⟨hR.1, hR.2.1, fun h0 => ?_⟩
  obtain ⟨ad, e, hc⟩ := hR.2.2 h0
  refine ⟨ad, e, fun j hj => ?_⟩
  rw [← hc j hj]
  have hb : (ad.add j).block = ad.block := by unfold Addr.add; split <;> rfl
  unfold World.cell?
  rw [hb, hm ad e]
/-- A writer in block B: its bytes are its own. -/
structure WrS (w : World) (base B : Nat) (xs : List Int) : Prop where
  ex : ∃ v, WrAt w B v ∧ BR w base v xs
theorem WrS.lt {w : World} {base B : Nat} {xs : List Int} (h : WrS w base B xs) : B < w.heap.size := by
  obtain ⟨v, k, _⟩ := h.ex
  exact k.lt
theorem BR.set {w : World} {base B k : Nat} {v u : Value} {xs : List Int} (h : BR w base v xs) (hB : B < base) : BR (w.setCell ⟨B, k, none⟩ u) base v xs := by
  refine Kd.R_mono (Kd.R_grown (Kd.R_bound h) (grownBy_set w B k u (World.grownBy.refl w _)) (fun j hj e => ?_)) (fun _ _ => trivial)
  have h1 := hj.2.1
  cases e
  omega

theorem vbs_take_succ (l : List Int) (i : Nat) (h : i < l.length) : vbs (l.take (i + 1)) = vbs (l.take i) ++ vb (l.getD i 0).toNat := by
  rw [List.take_succ_eq_append_getElem h, vbs_snoc, getD_lt h]
theorem vbs_take_le (l : List Int) (i : Nat) : (vbs (l.take i)).length ≤ (vbs l).length := by
  have h : vbs l = vbs (l.take i) ++ vbs (l.drop i) := by
    conv => lhs; rw [← List.take_append_drop i l]
    unfold vbs
    rw [List.flatMap_append]
  rw [h, List.length_append]
  omega

set_option maxHeartbeats 8000000 in
theorem num_is {w : World} {base B : Nat} {xs : List Int} (hW : WrS w base B xs) (A : Option Addr) (c : Nat) (l : List Int) (hl : Kd.C (Kd.int .i64) w A l.length l) (hA : ∀ ad, A = some ad → ad.block ≠ B ∧ ad.block < w.heap.size)
    (hn : ∀ i, i < l.length → 0 ≤ l.getD i 0 ∧ l.getD i 0 < 9223372036854775808) (hroom : (xs ++ vbs l).length ≤ 140737488355328) (hbase : base ≤ w.heap.size) :
    Calls Try.prog 110 #[.pointer (some ⟨B, 0, none⟩), .slice A l.length c] w fun e w' => e = .returned (.tuple #[]) ∧ WrS w' base B (xs ++ vbs l) ∧ w.grownBy w' (some B) := by
  have hl1 : l.length ≤ 9223372036854775807 := hl.2.1
  have hCg : ∀ W, w.grownBy W (some B) → Kd.C (Kd.int .i64) W A l.length l := fun W h => C_moveK hl fun ad e => h.block _ (hA ad e).2 (by have := (hA ad e).1; intro e2; cases e2; exact this rfl)
  have hBl := hW.lt
  have HW := Lib.hid hW
  have HC := Lib.hid hCg
  have HN := Lib.hid hn
  clear hl hA hW hn hCg
  go_enter Try.func110, Try.ntmps110
  go_wp2
  go_loopg [8] l.length (fun g s8 wr => ∃ i : Nat, s8 = .int .i64 i ∧ i ≤ l.length ∧ g = l.length - i ∧ Hid (WrS wr base B (xs ++ vbs (l.take i))) ∧ Hid (w.grownBy wr (some B)))
  case atStart => exact ⟨0, rfl, Nat.zero_le _, rfl, Lib.hid (by simpa [vbs] using HW.out), Lib.hid (World.grownBy.refl w _)⟩
  case round =>
    obtain ⟨i, rfl, hi, hg, HX, HG⟩ := hrel
    have hsz : w.heap.size ≤ wr.heap.size := HG.out.size
    by_cases hlt : i < l.length
    · have e1 := vbs_take_succ l i hlt
      have e2 := vbs_take_le l (i + 1)
      obtain ⟨ad, ea, hc⟩ := Kd.at_int (HC.out _ HG.out) (i : Int) (by omega) (by omega)
      subst ea
      obtain ⟨hx0, hx1⟩ := HN.out i hlt
      have hrd : rd l (i : Int) = l.getD i 0 := rfl
      rw [hrd, Int.toNat_natCast] at hc
      clear hrd
      generalize l.getD i 0 = x at e1 hc hx0 hx1
      obtain ⟨n, rfl⟩ : ∃ n : Nat, x = (n : Int) := ⟨x.toNat, by omega⟩
      rw [Int.toNat_natCast] at e1
      rw [e1] at e2
      rw [List.length_append] at e2 hroom
      obtain ⟨ys, hys⟩ : ∃ ys, xs ++ vbs (l.take i) = ys := ⟨_, rfl⟩
      have hyl : (ys ++ vb n).length ≤ 140737488355328 := by rw [← hys, List.length_append, List.length_append]; omega
      have hye : xs ++ vbs (l.take (i + 1)) = ys ++ vb n := by rw [e1, ← hys, List.append_assoc]
      rw [hys] at HX
      obtain ⟨v, hk, hv⟩ := HX.out.ex
      obtain ⟨A1, k1, rfl, hk1, hC1⟩ := BR.len hv
      have HCY := Lib.hid hC1
      have c0 := hk.c0
      have HK := Lib.hid hk
      have hBw := hk.lt
      obtain ⟨zs, hzs⟩ : ∃ zs, ys ++ vb n = zs := ⟨_, rfl⟩
      have HZS := Lib.hid hzs
      rw [hzs] at hye
      have HE := Lib.hid hye
      have hU : IntKind.u64.wrap (n : Int) = (n : Int) := by rw [IntKind.wrap_u64]; omega
      have HBX := Lib.hid (C_box wr .u64 (n : Int) 90)
      have hbe : Below wr.heap.size wr (wr.alloc (.cells #[.int .u64 (n : Int)] 90)) := (Below.refl _ _).alloc (Nat.le_refl _) _
      have HBE := Lib.hid hbe
      have HUN := Lib.hid (u64_one n (by omega))
      have HYL : Hid ((ys ++ vbs [(n : Int)]).length ≤ 140737488355328) := Lib.hid (by rw [vbs_one]; exact hyl)
      clear hk hv hC1 hys e1 e2 hye hbe hzs hx0 hx1 hyl hroom
      go_wp2_with (go_at_call 89; refine (put_any A1 (some ⟨wr.heap.size, 0, none⟩) k1 1 ys [(n : Int)] _ (Kd.C_below HCY.out HBE.out) HBX.out HUN.out HYL.out).mono ?_; rintro e w1 ⟨v1, rfl, hr1, hb1⟩; rw [vbs_one, HZS.out] at hr1; obtain ⟨A2, k2, rfl, _, _⟩ := BR.len hr1; have HB1 := Lib.hid (HBE.out.trans (hb1.mono HBE.out.size)); have HR1 := Lib.hid (BR.set (k := 0) (u := .slice A2 zs.length k2) (B := B) (Kd.R_lower hr1 (Nat.le_refl _)) (Nat.lt_of_lt_of_le hBw HBE.out.size)); have HK1 := Lib.hid (HK.out.below HB1.out (Nat.le_refl _)); have f1 := HK1.out.f; have d1 := HK1.out.c0; clear hr1 hb1 hU c0 HUN)
      go_roundg (l.length - (i + 1))
      case measure => omega
      case rel => exact ⟨i + 1, by go_num, by omega, rfl, Lib.hid ⟨_, HK1.out.put _, by rw [HE.out]; exact Kd.R_lower HR1.out (by have := HBE.out.size; omega)⟩, Lib.hid (grownBy_set _ _ _ _ (HG.out.trans ⟨HB1.out.os, HB1.out.tape, HB1.out.output, HB1.out.size, fun j hj _ => HB1.out.block j hj⟩))⟩
    · obtain rfl : i = l.length := by omega
      rw [List.take_length] at HX
      go_wp2
      go_end0
      exact ⟨rfl, HX.out, HG.out⟩

end Go.Proofs.Ytmbnjgnmblgjoaa.Man
end

-- WEqStruct
section
-- PRINTED BY print.sh 35421559b90ae4d0a3588c463048766b98c2df88dd9212a6774a882060cdf62d: not written by this session


/-! ### 53. '==' of structs as_ one Bool -/
namespace Go.Proofs.YtmbnjgnmblgjoaaW.PrintWords
open Go.RowKit
section
variable {P : Program} {d : Nat} {xs ys : Array Value} {f : Field} {fs : List Field} {a b : Value} {r s : Bool} {w : World}
/-- The last field that counts. -/
theorem eqf_last (hn : (f.name == "_") = false) (ha : (part f.type xs f.offset).run P w = .ok a w) (hb : (part f.type ys f.offset).run P w = .ok b w) (he : (Op.equalIn d f.type a b).run P w = .ok r w) : (Op.eqFields d xs ys [f]).run P w = .ok r w := by
  have hn' : f.name ≠ "_" := by simpa using hn
  simp only [Op.eqFields, if_pos hn', Sem.run_bind, ha, hb, he, Result.andThen_ok]
  cases r <;> simp
theorem eqf_cons (hn : (f.name == "_") = false) (ha : (part f.type xs f.offset).run P w = .ok a w) (hb : (part f.type ys f.offset).run P w = .ok b w) (he : (Op.equalIn d f.type a b).run P w = .ok r w) (hr : (Op.eqFields d xs ys fs).run P w = .ok s w) : (Op.eqFields d xs ys (f :: fs)).run P w = .ok (r && s) w := by
  have hn' : f.name ≠ "_" := by simpa using hn
  rw [Op.eqFields]
  simp only [if_pos hn', Sem.run_bind, ha, hb, he, Result.andThen_ok]
  cases r
  · simp
  · simpa using hr
theorem eqA_of {t : TypeId} {fs : Array Field} (hu : P.underlying t = some (.struct fs)) (hp : P.stoodInHeld t = false) (h : (Op.eqFields d xs ys fs.toList).run P w = .ok r w) : (Op.equalIn (d + 1) t (.agg xs) (.agg ys)).run P w = .ok r w := by
  have hf : P.fieldsOf t = fs := by simp [Program.fieldsOf, hu]
  rw [run_equalIn_struct (P := P) w d t xs ys (by rw [hf]; exact hu) hp, hf]
  exact h
end
end Go.Proofs.YtmbnjgnmblgjoaaW.PrintWords
end

-- WGuard
section
-- PRINTED BY print.sh 35421559b90ae4d0a3588c463048766b98c2df88dd9212a6774a882060cdf62d: not written by this session

/-! ### 58. A guarded operation whose guard is known to want it: the same goal without the guard -/
namespace Go.Proofs.YtmbnjgnmblgjoaaW.PrintWords
open Go.RowKit
section
variable {P : Program} {ops : Array Oper} {rest : List Oper} {o : Oper} {a : Act} {Q : Exit → Act → World → Prop} {W : World}
/-- The gate takes the guard off (hw: 'by rfl', 'by kernel_rfl': the guard's slot holds what is wanted). -/
theorem gate_guard (hw : Region.wanted o (yielded ops a.tmps) = true) (h : wpList P ops Q ({ o with guard := none } :: rest) a W) : wpList P ops Q (o :: rest) a W := by
  have h1 : Region.wanted { o with guard := none } (yielded ops a.tmps) = true := rfl
  unfold wpList at h ⊢
  rw [if_pos h1] at h
  rw [if_pos hw]
  exact h
end
end Go.Proofs.YtmbnjgnmblgjoaaW.PrintWords
end

-- Kx0
section
-- Written by a program of this session (wip/tools/ppatch.py), function by function. Not trusted: Lean checks it.














































namespace Go.Proofs.Ytmbnjgnmblgjoaa.K
open Go.RowKit Go.Proofs.YtmbnjgnmblgjoaaW.PrintWords Go.Proofs.YtmbnjgnmblgjoaaW.PrintLast Go.Proofs.YtmbnjgnmblgjoaaW.PrintMore
attribute [local go_sem] max2_int min2_int max_two min_two max_three min_three max_four min_four   -- for this text's walks alone
set_option linter.unusedVariables false
set_option linter.unusedSimpArgs false



def errW : Option Int → Value
  | none => .nilIface
  | some c => .iface 0 (.int .i64 c)
theorem errW_none : errW none = .nilIface := rfl
theorem errW_some (c : Int) : errW (some c) = .iface 0 (.int .i64 c) := rfl

theorem info3 : (Try.prog.info? 3).map (fun i => (i.zero, i.size, i.bytes)) = some (some (.int .i64 0), 1, 8) := by kernel_rfl
-- the values' own types
/-! #### struct type 111 -/
structure S111 where
  f0 : Int
  f1 : Int
  f2 : Int
  f3 : Int
def z111 : S111 := ⟨(0 : Int), (0 : Int), (0 : Int), (0 : Int)⟩
def k111 : Kd S111 := Kd.iso (Kd.pair (Kd.int .i64) (Kd.pair (Kd.int .i64) (Kd.pair (Kd.int .i64) (Kd.int .i64)))) (fun x : S111 => (x.f0, x.f1, x.f2, x.f3))
theorem k111_open {w : World} {x : S111} {cs : List Value} (h : k111.K w x cs) : cs = [.int .i64 x.f0, .int .i64 x.f1, .int .i64 x.f2, .int .i64 x.f3] := by
  obtain ⟨_, _, rfl, rfl, ⟨_, _, rfl, rfl, ⟨_, _, rfl, rfl, rfl⟩⟩⟩ := h
  exact rfl
theorem k111_mk (w : World) (x : S111)  : k111.K w x [.int .i64 x.f0, .int .i64 x.f1, .int .i64 x.f2, .int .i64 x.f3] := ⟨[.int .i64 x.f0], [.int .i64 x.f1, .int .i64 x.f2, .int .i64 x.f3], rfl, rfl, ⟨[.int .i64 x.f1], [.int .i64 x.f2, .int .i64 x.f3], rfl, rfl, ⟨[.int .i64 x.f2], [.int .i64 x.f3], rfl, rfl, rfl⟩⟩⟩
theorem k111_mkM (w : World) (base : Nat) (ok : Nat → Prop) (x : S111)  : k111.M w base ok x [.int .i64 x.f0, .int .i64 x.f1, .int .i64 x.f2, .int .i64 x.f3] := ⟨[.int .i64 x.f0], [.int .i64 x.f1, .int .i64 x.f2, .int .i64 x.f3], rfl, rfl, ⟨[.int .i64 x.f1], [.int .i64 x.f2, .int .i64 x.f3], rfl, rfl, ⟨[.int .i64 x.f2], [.int .i64 x.f3], rfl, rfl, rfl⟩⟩⟩
def rd_T111 (xs : List S111) (i : Int) : S111 := xs.getD i.toNat z111
theorem at_T111 {w : World} {A : Option Addr} {n : Nat} {xs : List S111} (h : Kd.C k111 w A n xs) (i : Int) (h0 : 0 ≤ i) (h1 : i < n) : ∃ ad , A = some ad ∧ w.cell? (ad.add (i.toNat * 4)) = some (.int .i64 (rd_T111 xs i).f0) ∧ w.cell? ⟨(ad.add (i.toNat * 4)).block, (ad.add (i.toNat * 4)).off + 1, none⟩ = some (.int .i64 (rd_T111 xs i).f1) ∧ w.cell? ⟨(ad.add (i.toNat * 4)).block, (ad.add (i.toNat * 4)).off + 2, none⟩ = some (.int .i64 (rd_T111 xs i).f2) ∧ w.cell? ⟨(ad.add (i.toNat * 4)).block, (ad.add (i.toNat * 4)).off + 3, none⟩ = some (.int .i64 (rd_T111 xs i).f3) := by
  obtain ⟨ad, c, e, _, hK, hc0⟩ := Kd.C_get h z111 i h0 h1
  have hc : ∀ j u, c[j]? = some u → w.cell? (ad.add (i.toNat * 4 + j)) = some u := hc0
  obtain rfl := k111_open hK
  exact ⟨ad, e, hc 0 _ rfl, by rw [← add_field _ _ 1 (by omega)]; exact hc 1 _ rfl, by rw [← add_field _ _ 2 (by omega)]; exact hc 2 _ rfl, by rw [← add_field _ _ 3 (by omega)]; exact hc 3 _ rfl⟩

end Go.Proofs.Ytmbnjgnmblgjoaa.K
end

-- Kinds
section
/- Steps, entries as_ lists of cells: struct kinds, as_ the session's print writes them. -/

namespace Go.Proofs.Ytmbnjgnmblgjoaa.K
open Go.RowKit Go.Proofs.YtmbnjgnmblgjoaaW.PrintWords Go.Proofs.YtmbnjgnmblgjoaaW.PrintLast Go.Proofs.YtmbnjgnmblgjoaaW.PrintMore
set_option linter.unusedVariables false
set_option linter.unusedSimpArgs false
/-! #### struct type 24 -/
structure S24 where
  f0 : Int
  f1 : Int
  f2 : Int
  f3 : Int
  f4 : Int
  f5 : Int
  f6 : (List S111)
  f7 : Int
def z24 : S24 := ⟨(0 : Int), (0 : Int), (0 : Int), (0 : Int), (0 : Int), (0 : Int), ([] : List S111), (0 : Int)⟩
def k24 : Kd S24 := Kd.iso (Kd.pair (Kd.int .i64) (Kd.pair (Kd.int .i64) (Kd.pair (Kd.int .i64) (Kd.pair (Kd.int .i64) (Kd.pair (Kd.int .i64) (Kd.pair (Kd.int .i64) (Kd.pair (Kd.slice 111 k111) (Kd.int .i64)))))))) (fun x : S24 => (x.f0, x.f1, x.f2, x.f3, x.f4, x.f5, x.f6, x.f7))
theorem k24_open {w : World} {x : S24} {cs : List Value} (h : k24.K w x cs) : ∃ A6 c6, cs = [.int .i64 x.f0, .int .i64 x.f1, .int .i64 x.f2, .int .i64 x.f3, .int .i64 x.f4, .int .i64 x.f5, .slice A6 x.f6.length c6, .int .i64 x.f7] ∧ x.f6.length ≤ c6 ∧ k111.C w A6 x.f6.length x.f6 := by
  obtain ⟨_, _, rfl, rfl, ⟨_, _, rfl, rfl, ⟨_, _, rfl, rfl, ⟨_, _, rfl, rfl, ⟨_, _, rfl, rfl, ⟨_, _, rfl, rfl, ⟨_, _, rfl, ⟨A6, c6, rfl, l6, g6⟩, rfl⟩⟩⟩⟩⟩⟩⟩ := h
  exact ⟨A6, c6, rfl, l6, g6⟩
def rd_T24 (xs : List S24) (i : Int) : S24 := xs.getD i.toNat z24
/-! #### struct type 26 -/
structure S26 where
  f0 : Int
  f1 : Int
  f2 : S24
def z26 : S26 := ⟨(0 : Int), (0 : Int), z24⟩
def k26 : Kd S26 := Kd.iso (Kd.pair (Kd.int .i64) (Kd.pair (Kd.int .i64) k24)) (fun x : S26 => (x.f0, x.f1, x.f2))
theorem k26_open {w : World} {x : S26} {cs : List Value} (h : k26.K w x cs) : ∃ A8 c8, cs = [.int .i64 x.f0, .int .i64 x.f1, .int .i64 x.f2.f0, .int .i64 x.f2.f1, .int .i64 x.f2.f2, .int .i64 x.f2.f3, .int .i64 x.f2.f4, .int .i64 x.f2.f5, .slice A8 x.f2.f6.length c8, .int .i64 x.f2.f7] ∧ x.f2.f6.length ≤ c8 ∧ k111.C w A8 x.f2.f6.length x.f2.f6 := by
  obtain ⟨_, _, rfl, rfl, ⟨_, _, rfl, rfl, s2⟩⟩ := h
  obtain ⟨A8, c8, rfl, l8, g8⟩ := k24_open s2
  exact ⟨A8, c8, rfl, l8, g8⟩
def rd_T26 (xs : List S26) (i : Int) : S26 := xs.getD i.toNat z26
theorem at_T26 {w : World} {A : Option Addr} {n : Nat} {xs : List S26} (h : Kd.C k26 w A n xs) (i : Int) (h0 : 0 ≤ i) (h1 : i < n) : ∃ ad A8 c8, A = some ad ∧ w.cell? (ad.add (i.toNat * 10)) = some (.int .i64 (rd_T26 xs i).f0) ∧ w.cell? ⟨(ad.add (i.toNat * 10)).block, (ad.add (i.toNat * 10)).off + 1, none⟩ = some (.int .i64 (rd_T26 xs i).f1) ∧ w.cell? ⟨(ad.add (i.toNat * 10)).block, (ad.add (i.toNat * 10)).off + 2, none⟩ = some (.int .i64 (rd_T26 xs i).f2.f0) ∧ w.cell? ⟨(ad.add (i.toNat * 10)).block, (ad.add (i.toNat * 10)).off + 3, none⟩ = some (.int .i64 (rd_T26 xs i).f2.f1) ∧ w.cell? ⟨(ad.add (i.toNat * 10)).block, (ad.add (i.toNat * 10)).off + 4, none⟩ = some (.int .i64 (rd_T26 xs i).f2.f2) ∧ w.cell? ⟨(ad.add (i.toNat * 10)).block, (ad.add (i.toNat * 10)).off + 5, none⟩ = some (.int .i64 (rd_T26 xs i).f2.f3) ∧ w.cell? ⟨(ad.add (i.toNat * 10)).block, (ad.add (i.toNat * 10)).off + 6, none⟩ = some (.int .i64 (rd_T26 xs i).f2.f4) ∧ w.cell? ⟨(ad.add (i.toNat * 10)).block, (ad.add (i.toNat * 10)).off + 7, none⟩ = some (.int .i64 (rd_T26 xs i).f2.f5) ∧ w.cell? ⟨(ad.add (i.toNat * 10)).block, (ad.add (i.toNat * 10)).off + 8, none⟩ = some (.slice A8 (rd_T26 xs i).f2.f6.length c8) ∧ w.cell? ⟨(ad.add (i.toNat * 10)).block, (ad.add (i.toNat * 10)).off + 9, none⟩ = some (.int .i64 (rd_T26 xs i).f2.f7) ∧ (rd_T26 xs i).f2.f6.length ≤ c8 ∧ k111.C w A8 (rd_T26 xs i).f2.f6.length (rd_T26 xs i).f2.f6 := by
  obtain ⟨ad, c, e, _, hK, hc0⟩ := Kd.C_get h z26 i h0 h1
  have hc : ∀ j u, c[j]? = some u → w.cell? (ad.add (i.toNat * 10 + j)) = some u := hc0
  obtain ⟨A8, c8, rfl, l8, g8⟩ := k26_open hK
  exact ⟨ad, A8, c8, e, hc 0 _ rfl, by rw [← add_field _ _ 1 (by omega)]; exact hc 1 _ rfl, by rw [← add_field _ _ 2 (by omega)]; exact hc 2 _ rfl, by rw [← add_field _ _ 3 (by omega)]; exact hc 3 _ rfl, by rw [← add_field _ _ 4 (by omega)]; exact hc 4 _ rfl, by rw [← add_field _ _ 5 (by omega)]; exact hc 5 _ rfl, by rw [← add_field _ _ 6 (by omega)]; exact hc 6 _ rfl, by rw [← add_field _ _ 7 (by omega)]; exact hc 7 _ rfl, by rw [← add_field _ _ 8 (by omega)]; exact hc 8 _ rfl, by rw [← add_field _ _ 9 (by omega)]; exact hc 9 _ rfl, l8, g8⟩

end Go.Proofs.Ytmbnjgnmblgjoaa.K
end

-- PutDoc
section
/- codec's writer: tokens' bytes. -/


namespace Go.Proofs.Ytmbnjgnmblgjoaa.Man
open Go.RowKit Go.Proofs.YtmbnjgnmblgjoaaW.PrintWords Go.Proofs.YtmbnjgnmblgjoaaW.PrintLast Go.Proofs.YtmbnjgnmblgjoaaW.PrintMore
set_option linter.unusedVariables false
set_option linter.unusedSimpArgs false
set_option maxRecDepth 100000

theorem WrS.below {w w1 : World} {base B n : Nat} {xs : List Int} (h : WrS w base B xs) (hb : Below n w w1) (hn : w.heap.size ≤ n) : WrS w1 base B xs := by
  obtain ⟨v, k, r⟩ := h.ex
  exact ⟨v, k.below hb hn, Kd.R_below r (hb.mono hn)⟩
theorem vb_le10 (n : Nat) (hn : n < 9223372036854775808) : (vb n).length ≤ 10 := vb_le_ten (by omega)
/-- One number more, boxed by the call. -/
theorem num1 {w : World} {base B : Nat} {xs : List Int} (hW : WrS w base B xs) (hB : base ≤ B) (hbase : base ≤ w.heap.size) (n : Nat) (hn : n < 9223372036854775808) (hroom : xs.length ≤ 100000000000000) :
    Calls Try.prog 110 #[.pointer (some ⟨B, 0, none⟩), .slice (some ⟨w.heap.size, 0, none⟩) 1 1] (w.alloc (.cells #[.int .i64 (n : Int)] 3)) fun e w' => e = .returned (.tuple #[]) ∧ WrS w' base B (xs ++ vb n) ∧ w.grownBy w' (some B) := by
  have hBl := hW.lt
  have hbe : Below base w (w.alloc (.cells #[.int .i64 (n : Int)] 3)) := (Below.refl _ _).alloc hbase _
  have hbe2 : Below w.heap.size w (w.alloc (.cells #[.int .i64 (n : Int)] 3)) := (Below.refl _ _).alloc (Nat.le_refl _) _
  have hsz : (w.alloc (.cells #[.int .i64 (n : Int)] 3)).heap.size = w.heap.size + 1 := World.size_alloc _ _
  have e0 : vbs [(n : Int)] = vb n := vbs_one n
  have hl := vb_le10 n hn
  have h := num_is (hW.below hbe2 (Nat.le_refl _)) (some ⟨w.heap.size, 0, none⟩) 1 [(n : Int)] (C_box w .i64 (n : Int) 3) (fun ad e => by cases e; exact ⟨fun e2 => (by have : w.heap.size = B := e2; omega), (by show w.heap.size < _; rw [hsz]; omega)⟩)
    (fun i hi => by have : i = 0 := (by simpa using hi); subst this; exact ⟨by show (0 : Int) ≤ (n : Int); omega, by show (n : Int) < _; omega⟩) (by rw [e0, List.length_append]; omega) (by rw [hsz]; omega)
  rw [e0] at h
  refine h.mono ?_
  rintro e w1 ⟨rfl, hw, hg⟩
  exact ⟨rfl, hw, (grown_of_below hbe2 _).trans hg⟩

/-- A token's bytes, tokens' bytes. -/
def tokB (x : K.S111) : List Int := vb (x.f0 + 4 * x.f2).toNat ++ (if x.f0 = 0 then vb x.f3.toNat else if x.f0 = 1 ∨ x.f0 = 3 then vb x.f1.toNat else [])
def docB (l : List K.S111) : List Int := vb l.length ++ l.flatMap tokB
/-- A token that may be written. -/
def TokOk (x : K.S111) : Prop := 0 ≤ x.f0 ∧ x.f0 ≤ 3 ∧ 0 ≤ x.f1 ∧ x.f1 < 2147483648 ∧ 0 ≤ x.f2 ∧ x.f2 < 2147483648 ∧ 0 ≤ x.f3 ∧ x.f3 < 2147483648
theorem tokB_le (x : K.S111) (h : TokOk x) : (tokB x).length ≤ 20 := by
  obtain ⟨h0, h1, h2, h3, h4, h5, h6, h7⟩ := h
  have a := vb_le10 (x.f0 + 4 * x.f2).toNat (by omega)
  have b := vb_le10 x.f3.toNat (by omega)
  have c := vb_le10 x.f1.toNat (by omega)
  unfold tokB
  rw [List.length_append]
  split
  · omega
  · split
    · omega
    · simp only [List.length_nil]; omega
theorem docB_snoc (l : List K.S111) (i : Nat) (h : i < l.length) : (l.take (i + 1)).flatMap tokB = (l.take i).flatMap tokB ++ tokB (l.getD i K.z111) := by
  rw [List.take_succ_eq_append_getElem h, List.flatMap_append]
  simp [List.getD, h]
theorem toks_le (l : List K.S111) (h : ∀ x ∈ l, TokOk x) : (l.flatMap tokB).length ≤ 20 * l.length := by
  induction l with
  | nil => simp
  | cons x l ih =>
    rw [List.flatMap_cons, List.length_append, List.length_cons]
    have := tokB_le x (h x List.mem_cons_self)
    have := ih fun y hy => h y (List.mem_cons_of_mem _ hy)
    omega

def TokAt (w : World) (P : Nat) (x : K.S111) : Prop := w.heap[P]? = some (.cells #[.int .i64 x.f0, .int .i64 x.f1, .int .i64 x.f2, .int .i64 x.f3] 111 (0, 0))
theorem TokAt.c0 {w : World} {P : Nat} {x : K.S111} (k : TokAt w P x) : w.cell? ⟨P, 0, none⟩ = some (.int .i64 x.f0) := by simp [World.cell?, show w.heap[P]? = _ from k]
theorem TokAt.c1 {w : World} {P : Nat} {x : K.S111} (k : TokAt w P x) : w.cell? ⟨P, 1, none⟩ = some (.int .i64 x.f1) := by simp [World.cell?, show w.heap[P]? = _ from k]
theorem TokAt.c2 {w : World} {P : Nat} {x : K.S111} (k : TokAt w P x) : w.cell? ⟨P, 2, none⟩ = some (.int .i64 x.f2) := by simp [World.cell?, show w.heap[P]? = _ from k]
theorem TokAt.c3 {w : World} {P : Nat} {x : K.S111} (k : TokAt w P x) : w.cell? ⟨P, 3, none⟩ = some (.int .i64 x.f3) := by simp [World.cell?, show w.heap[P]? = _ from k]
theorem TokAt.lt {w : World} {P : Nat} {x : K.S111} (k : TokAt w P x) : P < w.heap.size := (Array.getElem?_eq_some_iff.1 k).1

set_option maxHeartbeats 8000000 in
theorem wdoc_is {w0 w : World} {base B : Nat} {xs : List Int} (hW : WrS w base B xs) (hB : base ≤ B) (hbase : base ≤ w.heap.size) (A : Option Addr) (c : Nat) (l : List K.S111) (hC : Kd.C K.k111 w0 A l.length l) (hb : Below w0.heap.size w0 w) (h0 : w0.heap.size ≤ base)
    (hl : l.length ≤ 2048) (hok : ∀ x ∈ l, TokOk x) (hroom : xs.length ≤ 90000000000000) :
    Calls Try.prog 104 #[.pointer (some ⟨B, 0, none⟩), .slice A l.length c] w fun e w' => e = .returned (.tuple #[]) ∧ WrS w' base B (xs ++ docB l) ∧ w.grownBy w' (some B) := by
  have hCg : ∀ W, w.grownBy W (some B) → Kd.C K.k111 W A l.length l := fun W hg => Kd.C_below hC (hb.trans ⟨hg.os, hg.tape, hg.output, hg.size, fun k hk => hg.block k (by have := hb.size; omega) (by intro e; cases e; omega)⟩)
  have hok2 : ∀ i, i < l.length → TokOk (l.getD i K.z111) := fun i hi => hok _ (by rw [show l.getD i K.z111 = l[i] by simp [List.getD, hi]]; exact List.getElem_mem hi)
  have htl : ∀ i, ((l.take i).flatMap tokB).length ≤ 20 * 2048 := fun i => by
    have h1 := toks_le (l.take i) (fun x hx => hok x (List.mem_of_mem_take hx))
    have h2 : (l.take i).length ≤ l.length := by rw [List.length_take]; omega
    omega
  have hv10 := vb_le10 l.length (by omega)
  have HW := Lib.hid hW
  have HC := Lib.hid hCg
  have HOK := Lib.hid hok2
  have HTL := Lib.hid htl
  have HV := Lib.hid hv10
  clear hW hC hb hok hCg hok2 htl hv10
  go_enter Try.func104, Try.ntmps104
  go_wp2_with (go_at_call 110; refine (num1 HW.out hB hbase l.length (by omega) (by omega)).mono ?_; rintro e w1 ⟨rfl, hw, hg⟩; have HW1 := Lib.hid hw; have HG1 := Lib.hid hg; clear hw hg)
  go_loopg [13] l.length (fun g s13 wr => ∃ i : Nat, s13 = .int .i64 i ∧ i ≤ l.length ∧ g = l.length - i ∧ Hid (WrS wr base B (xs ++ vb l.length ++ (l.take i).flatMap tokB)) ∧ Hid (w.grownBy wr (some B)))
  case atStart => exact ⟨0, rfl, Nat.zero_le _, rfl, Lib.hid (by simpa using HW1.out), HG1⟩
  case round =>
    clear HW1 HG1 HW
    obtain ⟨i, rfl, hi, hg, HX, HG⟩ := hrel
    by_cases hlt : i < l.length
    · obtain ⟨ad, ea, a0, a1, a2, a3⟩ := K.at_T111 (HC.out _ HG.out) (i : Int) (by omega) (by omega)
      subst ea
      have hx := HOK.out i hlt
      have hsn := docB_snoc l i hlt
      have hrd : K.rd_T111 l (i : Int) = l.getD i K.z111 := by unfold K.rd_T111; rw [Int.toNat_natCast]
      rw [hrd, Int.toNat_natCast] at a0 a1 a2 a3
      clear hrd
      generalize l.getD i K.z111 = x at hx hsn a0 a1 a2 a3
      obtain ⟨k, t, n, m⟩ := x
      obtain ⟨h0k, h1k, h2t, h3t, h4n, h5n, h6m, h7m⟩ := hx
      simp only at h0k h1k h2t h3t h4n h5n h6m h7m a0 a1 a2 a3
      have hU1 : IntKind.i64.wrap (4 * n) = 4 * n := by rw [IntKind.wrap_i64]; omega
      obtain ⟨N, hN⟩ : ∃ N : Nat, k + 4 * n = (N : Int) := ⟨(k + 4 * n).toNat, by omega⟩
      have hN1 : N < 9000000000 := by omega
      have hU2 : IntKind.i64.wrap (k + 4 * n) = (N : Int) := by rw [IntKind.wrap_i64]; omega
      have htb : tokB ⟨k, t, n, m⟩ = vb N ++ (if k = 0 then vb m.toNat else if k = 1 ∨ k = 3 then vb t.toNat else []) := by
        unfold tokB
        simp only
        rw [hN, Int.toNat_natCast]
      have htlen := HTL.out i
      have hv10 := HV.out
      obtain ⟨ys, hys⟩ : ∃ ys, xs ++ vb l.length ++ (l.take i).flatMap tokB = ys := ⟨_, rfl⟩
      have hyl : ys.length ≤ 90000000100000 := by rw [← hys, List.length_append, List.length_append]; omega
      rw [hys] at HX
      have hye : xs ++ vb l.length ++ (l.take (i + 1)).flatMap tokB = ys ++ tokB ⟨k, t, n, m⟩ := by rw [hsn, ← List.append_assoc, hys]
      rw [htb] at hye
      have HYE := Lib.hid hye
      obtain ⟨wt, hwt⟩ : ∃ wt, wt = wr.alloc (.cells #[.int .i64 k, .int .i64 t, .int .i64 n, .int .i64 m] 111) := ⟨_, rfl⟩
      have hbt : Below wr.heap.size wr wt := by rw [hwt]; exact (Below.refl _ _).alloc (Nat.le_refl _) _
      have hkt : TokAt wt wr.heap.size ⟨k, t, n, m⟩ := by rw [hwt]; exact World.alloc_heap_new wr _
      have hgt : w.grownBy wt (some B) := HG.out.trans (grown_of_below hbt _)
      have hBt : B < wr.heap.size := HX.out.lt
      have hwz : wt.heap.size = wr.heap.size + 1 := by rw [hwt]; exact World.size_alloc _ _
      have HXT := Lib.hid (HX.out.below hbt (Nat.le_refl _))
      have HKT := Lib.hid hkt
      have HGT := Lib.hid hgt
      have HWT := Lib.hid hwt
      have HBT := Lib.hid hBt
      have hbw : base ≤ wt.heap.size := by have := hgt.size; omega
      have hnum := num1 HXT.out hB hbw N (by omega) (by omega)
      rw [hwz, hwt] at hnum
      have HNUM := Lib.hid hnum
      have HBW := Lib.hid hbw
      have HN1 := Lib.hid hN1
      have HYL := Lib.hid hyl
      clear hnum hwz hys htb hsn hye hN hwt hbt hkt hgt hBt hbw htlen hv10 hN1 hyl
      have HM : Hid (0 ≤ t ∧ t < 2147483648 ∧ 0 ≤ m ∧ m < 2147483648) := Lib.hid ⟨h2t, h3t, h6m, h7m⟩
      clear h4n h5n h2t h3t h6m h7m
      go_upto_region 5 with (go_at_call 110; refine HNUM.out.mono ?_; rintro e w2 ⟨rfl, hw, hg2⟩; rw [← HWT.out] at hg2; have HX2 := Lib.hid hw; have HG2 := Lib.hid (HGT.out.trans hg2); have hk2 : TokAt w2 wr.heap.size ⟨k, t, n, m⟩ := (hg2.block _ HKT.out.lt (by have := HBT.out; intro e; cases e; omega)).trans HKT.out; have d0 := hk2.c0; have d1 := hk2.c1; have d3 := hk2.c3; clear hw hg2 hk2)
      have HB2 : Hid (base ≤ w2.heap.size) := Lib.hid (Nat.le_trans hbase HG2.out.size)
      have HL2 : Hid ((ys ++ vb N).length ≤ 99000000000000) := Lib.hid (by have h1 := vb_le10 N (by have := HN1.out; omega); have := HYL.out; rw [List.length_append]; omega)
      rcases (show k = 0 ∨ k = 1 ∨ k = 2 ∨ k = 3 by omega) with rfl | rfl | rfl | rfl
      · obtain ⟨M, rfl⟩ : ∃ M : Nat, m = (M : Int) := ⟨m.toNat, by have := HM.out; omega⟩
        have HV2 : Hid (M < 9000000000) := Lib.hid (by have := HM.out; omega)
        go_wp2_with (go_at_call 110; refine (num1 HX2.out hB HB2.out M (by have := HV2.out; omega) (by have := HL2.out; omega)).mono ?_; rintro e w3 ⟨rfl, hw, hg3⟩; have HX3 := Lib.hid hw; have HG3 := Lib.hid (HG2.out.trans hg3); clear hw hg3)
        go_roundg (l.length - (i + 1))
        case measure => omega
        case rel => exact ⟨i + 1, by go_num, by omega, rfl, Lib.hid (by rw [HYE.out, if_pos (by simp), Int.toNat_natCast, ← List.append_assoc]; exact HX3.out), HG3⟩
      · obtain ⟨M, rfl⟩ : ∃ M : Nat, t = (M : Int) := ⟨t.toNat, by have := HM.out; omega⟩
        have HV2 : Hid (M < 9000000000) := Lib.hid (by have := HM.out; omega)
        go_wp2_with (go_at_call 110; refine (num1 HX2.out hB HB2.out M (by have := HV2.out; omega) (by have := HL2.out; omega)).mono ?_; rintro e w3 ⟨rfl, hw, hg3⟩; have HX3 := Lib.hid hw; have HG3 := Lib.hid (HG2.out.trans hg3); clear hw hg3)
        go_roundg (l.length - (i + 1))
        case measure => omega
        case rel => exact ⟨i + 1, by go_num, by omega, rfl, Lib.hid (by rw [HYE.out, if_neg (by decide), if_pos (by simp), Int.toNat_natCast, ← List.append_assoc]; exact HX3.out), HG3⟩
      · go_wp2_with (fail)
        go_roundg (l.length - (i + 1))
        case measure => omega
        case rel => exact ⟨i + 1, by go_num, by omega, rfl, Lib.hid (by rw [HYE.out, if_neg (by decide), if_neg (by decide), List.append_nil]; exact HX2.out), HG2⟩
      · obtain ⟨M, rfl⟩ : ∃ M : Nat, t = (M : Int) := ⟨t.toNat, by have := HM.out; omega⟩
        have HV2 : Hid (M < 9000000000) := Lib.hid (by have := HM.out; omega)
        go_wp2_with (go_at_call 110; refine (num1 HX2.out hB HB2.out M (by have := HV2.out; omega) (by have := HL2.out; omega)).mono ?_; rintro e w3 ⟨rfl, hw, hg3⟩; have HX3 := Lib.hid hw; have HG3 := Lib.hid (HG2.out.trans hg3); clear hw hg3)
        go_roundg (l.length - (i + 1))
        case measure => omega
        case rel => exact ⟨i + 1, by go_num, by omega, rfl, Lib.hid (by rw [HYE.out, if_neg (by decide), if_pos (by simp), Int.toNat_natCast, ← List.append_assoc]; exact HX3.out), HG3⟩
    · obtain rfl : i = l.length := by omega
      rw [List.take_length] at HX
      go_wp2
      go_end0
      exact ⟨rfl, by have := HX.out; rw [List.append_assoc] at this; exact this, HG.out⟩
end Go.Proofs.Ytmbnjgnmblgjoaa.Man
end
