/- JournalPlays (Upto): any acts (Append, Sync, Crash, Cut) on a journal over a disk that held any bytes tell, act by act, what the document's journal tells. Conditions: the statement's own, no others. -/
-- Laid together by a program of this session (wip/tools/shake.py). Not trusted: Lean checks it.
import Derived.Test.YtmbnjgnmblgjoaaRows
import Derived.Below
import Derived.Deep.Draws
import Derived.Deep.AppendLies
import Derived.Maps.AppendAt
import Derived.OwnWalk
import Derived.Laws.BytesArg
import Derived.Laws.MakeOwn
import Derived.Laws.OwnMore
import Derived.Deep.OwnRows
import Derived.Tactics
import Derived.Lib.ConvBytes
import Derived.Laws.Slices
import Derived.WalkKit
import Derived.KernelRfl
import Derived.RowKit3
import Derived.Deep.LoopGhost
import Derived.Deep.QuietTactic
import Derived.BigQuiet
import Derived.WideLaws
import Derived.Deep.DeepCutAuto
import Derived.Deep.CutBlock
import Derived.Deep.RegionHeld3
import Derived.Laws.Rows
import Derived.Lib.AppendStr
import Derived.ArgAppend
import Derived.Laws.IdiomCopy
import Derived.RowKit
import Derived.Deep.Slices
import Derived.ChangeArms
import Derived.SizedLaws
import Derived.WideShapes
import Derived.RangeFuncNested
import Derived.RangeFuncLeaves
import Derived.RangeFuncBox
import Derived.RangeFuncCalls
import Derived.TacticsInMore
import Derived.LoopNIn
import Derived.LoopIn
import Derived.OwnWalkIn
import Derived.Shelf.Abstract
import Derived.Test.YtmbnjgnmblgjoaaProg
import Derived.OrdersIn
import Derived.OrdersHeld
import Derived.Laws.BitsLemmas
import Derived.Deep.DeepMust
import Derived.Outline
import Derived.Lib.Hide
import Derived.OneCell
import Derived.Laws.Bits64
import Derived.Laws.BitsAllLaws
import Derived.RegionTactic
import Derived.RegionCalls
import Derived.Deep.RegionWith
import Derived.StillTailTactics
import Derived.Lib.Bytes
import Derived.Laws.CopyOwn
import Derived.Laws.StructEq
import Derived.WalkLawsBesides
import Derived.Defers
import Derived.Recover
import Derived.ProofKit
import Derived.OpenShut
import Derived.ShutString
import Derived.ChangeOld
import Derived.JoinedCond
import Derived.Deep.CondSized
theorem _root_.sA_ {α : Type} (l : List α) (i : Nat) (a : α) : l.toArray.setIfInBounds i a = (l.set i a).toArray := List.setIfInBounds_toArray l i a
theorem _root_.sB_ {α : Type} (x : α) (l : List α) (a : α) : (x :: l).set 0 a = a :: l := rfl
theorem _root_.sC_ {α : Type} (x : α) (l : List α) (n : Nat) (a : α) : (x :: l).set (n + 1) a = x :: l.set n a := rfl
section
set_option linter.unusedVariables false
set_option linter.unusedSimpArgs false
namespace Go.Proofs.YtmbnjgnmblgjoaaW.PrintWords
open Go.RowKit
structure Aside0 (p : Prop) : Prop where mk :: (out : p)
structure Drawn0 (w w' : World) : Prop where mk :: (out : ∃ n, w' = w.drewN n)
theorem Drawn0.refl (w : World) : Drawn0 w w := ⟨⟨0, rfl⟩⟩
theorem Drawn0.step {w w' : World} (h : Drawn0 w w') (n : Nat) : Drawn0 w (w'.drewN n) := by
 obtain ⟨m, rfl⟩ := h
 exact ⟨⟨m + n, World.drewN_drewN ..⟩⟩
theorem Drawn0.below {w w' : World} (h : Drawn0 w w') : Below w.heap.size w w' := by
 obtain ⟨n, rfl⟩ := h
 induction n with
 | zero => exact Below.refl _ _
 | succ n ih => rw [← World.drew_drewN]; exact ih.drew
def rd (xs : List Int) (i : Int) : Int := xs.getD i.toNat 0
def bt (s : ByteArray) (i : Int) : Int := if h : i.toNat < s.size then ((s[i.toNat]'h).toNat : Int) else 0
def nums (k : IntKind) (xs : List Int) : List Value := xs.map fun x => .int k x
def bools (xs : List Bool) : List Value := xs.map fun x => .bool x
def pw_strs (xs : List ByteArray) : List Value := xs.map fun x => .string x
theorem below_alloc {w W : World} (h : Below w.heap.size w W) (o : Obj) : Below w.heap.size w (W.alloc o) := h.alloc h.size o
theorem pw_below_drewN {B : Nat} {w W : World} (h : Below B w W) (n : Nat) : Below B w (W.drewN n) := ⟨h.os, h.tape, h.output, h.size, h.block⟩
theorem below_then {B : Nat} {w w1 w2 : World} (h : Below B w w1) (hB : B ≤ w1.heap.size) (k : Below w1.heap.size w1 w2) : Below B w w2 :=
 h.trans ⟨k.os, k.tape, k.output, k.size, fun i hi => k.block i (Nat.lt_of_lt_of_le hi hB)⟩
theorem grown_of_below {w w1 : World} (h : Below w.heap.size w w1) (row : Option Nat) : w.grownBy w1 row := ⟨h.os, h.tape, h.output, h.size, fun i hi _ => h.block i hi⟩
theorem pw_cell_below {w w1 : World} (h : Below w.heap.size w w1) {a : Addr} {v : Value} (hc : w.cell? a = some v) : w1.cell? a = some v := (h.cell (World.block_lt_of_cell? w a hc)).trans hc
def ReadsInt (w : World) (k : IntKind) (A : Option Addr) (n : Nat) (xs : List Int) : Prop :=
 xs.length = n ∧ n ≤ 9223372036854775807 ∧ (0 < n → ∃ ad, A = some ad ∧ ∀ j, j < n → w.cell? (ad.add j) = some (.int k (xs.getD j 0)))
theorem own_nil (W : World) (base : Nat) (e : TypeId) (size : Nat) : W.ownsRow base e size (.slice none 0 0) 0 [] := ⟨by simp, .inl ⟨rfl, rfl⟩⟩
theorem own_base {w : World} {base : Nat} {e : TypeId} {size n : Nat} {v : Value} {xs : List Value} (h : w.ownsRow base e size v n xs) (k : Nat) (hk : v.ownBlock = some k) : base ≤ k := by
 rcases h.2 with ⟨rfl, _⟩ | ⟨g, cap, cur, rfl, hb, _⟩
 · simp [Value.ownBlock] at hk
 · have : g = k := by simpa [Value.ownBlock] using hk
   omega
theorem own_lt {w : World} {base : Nat} {e : TypeId} {size n : Nat} {v : Value} {xs : List Value} (h : w.ownsRow base e size v n xs) (k : Nat) (hk : v.ownBlock = some k) : k < w.heap.size := by
 rcases h.2 with ⟨rfl, _⟩ | ⟨g, cap, cur, rfl, hb, hh, _⟩
 · simp [Value.ownBlock] at hk
 · have : g = k := by simpa [Value.ownBlock] using hk
   subst this
   exact (Array.getElem?_eq_some_iff.1 hh).1
theorem own_slice {w : World} {base n : Nat} {e : TypeId} {size : Nat} {v : Value} {xs : List Value} (h : w.ownsRow base e size v n xs) : ∃ A c, v = .slice A n c := by
 rcases h.2 with ⟨rfl, rfl⟩ | ⟨g, cap, cur, rfl, _⟩
 · exact ⟨none, 0, rfl⟩
 · exact ⟨_, cap, rfl⟩
section
variable {P : Program} {ops : Array Oper} {rest : List Oper} {o : Oper} {a : Act} {Q : Exit → Act → World → Prop}
end
section
variable {P : Program}
end
theorem own_lit (W : World) (base : Nat) (e : TypeId) (k : IntKind) (xs : List Int) (hb : base ≤ W.heap.size) (hm : xs.length ≤ 9223372036854775807) :
 (W.alloc (.cells (nums k xs).toArray e)).ownsRow base e 1 (.slice (some ⟨W.heap.size, 0, none⟩) xs.length xs.length) xs.length (nums k xs) := by
 have h := World.ownsRow_lit (base := base) (e := e) (size := 1) W (nums k xs).toArray xs.length hb (by simpa [maxLen] using hm) (by simp [nums])
 simpa using h
section
variable {P : Program} {ops : Array Oper} {rest : List Oper} {o : Oper} {a : Act} {Q : Exit → Act → World → Prop}
end
def bytesOf (s : ByteArray) : List Int := s.data.toList.map fun b => (b.toNat : Int)
def LeO {α : Type} (a b : Option α) : Prop := ∀ r, a = some r → b = some r
theorem LeO.refl {α : Type} (a : Option α) : LeO a a := fun _ h => h
theorem LeO.ite {α : Type} {c : Prop} [Decidable c] {a a' b b' : Option α} (h : LeO a a') (k : LeO b b') : LeO (if c then a else b) (if c then a' else b') := by
 split
 · exact h
 · exact k
theorem LeO.bind {α β : Type} {a a' : Option α} {f f' : α → Option β} (h : LeO a a') (k : ∀ x, LeO (f x) (f' x)) : LeO (a.bind f) (a'.bind f') := by
 intro r hr
 obtain ⟨x, hx, hf⟩ := Option.bind_eq_some_iff.1 hr
 exact Option.bind_eq_some_iff.2 ⟨x, h x hx, k x r hf⟩
def Reps {α : Type} (R : α → List Value → Prop) (size : Nat) (ps : List α) (cs : List Value) : Prop :=
 cs.length = ps.length * size ∧ ∀ j p, ps[j]? = some p → R p ((cs.drop (j * size)).take size)
theorem Reps.none {α : Type} (R : α → List Value → Prop) (size : Nat) : Reps R size [] [] := ⟨by simp, fun j p h => by simp at h⟩
theorem Reps.snoc {α : Type} {R : α → List Value → Prop} {size : Nat} {ps : List α} {cs c : List Value} {p : α} (h : Reps R size ps cs) (hp : R p c) (hc : c.length = size) : Reps R size (ps ++ [p]) (cs ++ c) := by
 refine ⟨by rw [List.length_append, h.1, hc, List.length_append, List.length_singleton, Nat.add_mul, Nat.one_mul], fun j q hq => ?_⟩
 rcases Nat.lt_or_ge j ps.length with hj | hj
 · rw [List.getElem?_append_left hj] at hq
   have h1 : j * size + size ≤ cs.length := by rw [h.1, ← Nat.succ_mul]; exact Nat.mul_le_mul_right _ hj
   have h2 := h.2 j q hq
   rw [List.drop_append_of_le_length (by omega), List.take_append_of_le_length (by rw [List.length_drop]; omega)]
   exact h2
 · have hj' : j = ps.length := by
    have := (List.getElem?_eq_some_iff.1 hq).1
    rw [List.length_append, List.length_singleton] at this
    omega
   subst hj'
   have hq' : p = q := by simpa using hq
   subst hq'
   rw [← h.1, List.drop_left, ← hc, List.take_length]
   exact hp
theorem Reps.imp_ {α : Type} {R R' : α → List Value → Prop} {size : Nat} {ps : List α} {cs : List Value} (h : Reps R size ps cs) (hR : ∀ p c, R p c → R' p c) : Reps R' size ps cs := ⟨h.1, fun j p hj => hR _ _ (h.2 j p hj)⟩
def ReadsRow {α : Type} (R : α → List Value → Prop) (size : Nat) (w : World) (A : Option Addr) (n : Nat) (ps : List α) : Prop :=
 ps.length = n ∧ n ≤ 9223372036854775807 ∧ (0 < n → ∃ ad, A = some ad ∧ ∀ j p, ps[j]? = some p → ∃ c, c.length = size ∧ R p c ∧ ∀ i u, c[i]? = some u → w.cell? (ad.add (j * size + i)) = some u)
theorem ReadsRow.get_ {α : Type} {R : α → List Value → Prop} {size : Nat} {w : World} {A : Option Addr} {n : Nat} {ps : List α} (h : ReadsRow R size w A n ps) (d : α) (i : Int) (h0 : 0 ≤ i) (h1 : i < n) :
 ∃ ad c, A = some ad ∧ c.length = size ∧ R (ps.getD i.toNat d) c ∧ ∀ j u, c[j]? = some u → w.cell? (ad.add (i.toNat * size + j)) = some u := by
 obtain ⟨ad, e, hc⟩ := h.2.2 (by omega)
 have hl : i.toNat < ps.length := by have := h.1; omega
 obtain ⟨c, hs, hr, hcell⟩ := hc i.toNat _ (List.getElem?_eq_getElem hl)
 refine ⟨ad, c, e, hs, ?_, hcell⟩
 rw [List.getD_eq_getElem?_getD, List.getElem?_eq_getElem hl]
 exact hr
theorem ReadsRow.imp_ {α : Type} {R R' : α → List Value → Prop} {size : Nat} {w w1 : World} {A : Option Addr} {n : Nat} {ps : List α} (h : ReadsRow R size w A n ps) (hb : Below w.heap.size w w1) (hR : ∀ p c, R p c → R' p c) : ReadsRow R' size w1 A n ps :=
 ⟨h.1, h.2.1, fun hn => by
  obtain ⟨ad, e, hc⟩ := h.2.2 hn
  refine ⟨ad, e, fun j p hj => ?_⟩
  obtain ⟨c, hs, hr, hcell⟩ := hc j p hj
  exact ⟨c, hs, hR _ _ hr, fun i u hu => pw_cell_below hb (hcell i u hu)⟩⟩
theorem own_reads_row {α : Type} {R : α → List Value → Prop} {w : World} {base n size : Nat} {e : TypeId} {v : Value} {ps : List α} {cs : List Value} (h : w.ownsRow base e size v n cs) (hR : Reps R size ps cs) (hn : ps.length = n) :
 ∃ A c, v = .slice A n c ∧ ReadsRow R size w A n ps := by
 rcases Nat.eq_zero_or_pos n with h0 | h0
 · rcases h.2 with ⟨rfl, rfl⟩ | ⟨g, cap, cur, rfl, _⟩
   · exact ⟨none, 0, rfl, hn, by omega, fun hp => absurd hp (by omega)⟩
   · exact ⟨_, cap, rfl, hn, by omega, fun hp => absurd hp (by omega)⟩
 · obtain ⟨g, cap, rfl, _, _⟩ := h.form h0
   have hm : n ≤ 9223372036854775807 := by
    rcases h.2 with ⟨_, h1⟩ | ⟨g', cap', cur, he, _, _, h1, h2, _⟩
    · omega
    · simp only [maxLen] at h2
      omega
   refine ⟨_, cap, rfl, hn, hm, fun _ => ⟨_, rfl, fun j p hj => ⟨(cs.drop (j * size)).take size, ?_, hR.2 j p hj, fun i u hu => ?_⟩⟩⟩
   · have hjl := (List.getElem?_eq_some_iff.1 hj).1
     have h1 : j * size + size ≤ cs.length := by rw [hR.1, ← Nat.succ_mul]; exact Nat.mul_le_mul_right _ hjl
     rw [List.length_take, List.length_drop]
     omega
   · refine h.cells (g := g) rfl _ u ?_
     rw [List.getElem?_take] at hu
     split at hu
     · rw [List.getElem?_drop] at hu
       exact hu
     · cases hu
theorem add_field (ad : Addr) (m j : Nat) (hj : 0 < j) : ad.add (m + j) = ⟨(ad.add m).block, (ad.add m).off + j, none⟩ := by
 unfold Addr.add
 by_cases hm : m = 0
 · subst hm
   simp [Nat.ne_of_gt hj]
 · simp [hm, Nat.add_assoc]
section
variable {P : Program} {ops : Array Oper} {rest : List Oper} {o : Oper} {a : Act} {Q : Exit → Act → World → Prop}
theorem print_append_cells {w0 W : World} (base : Nat) (hgd : o.guard = none) (s x : Operand) (t e : TypeId) (z : Value) (size bytes : Nat)
 (ho : o.op = .call { callee := .builtin .append, args := #[s, x], argTypes := #[t, t] })
 (ht : P.underlying t = some (.slice e)) (hinfo : (P.info? e).map (fun i => (i.zero, i.size, i.bytes)) = some (some z, size, bytes)) (hz : z.cells.size = size) (hs0 : 0 < size) (hb0 : 0 < bytes)
 (v : Value) (n : Nat) (xs ys : List Value) (hs : a.eval s = v) (hx : a.eval x = .slice (some ⟨W.heap.size, 0, none⟩) 1 1) (hys : ys.length = size) (h1 : ∀ u ∈ ys, u.oneCell' = true)
 (HO : W.ownsRow base e size v n xs) (HB : Below base w0 W) (hbase : base ≤ W.heap.size) (hl : (n + 1) * bytes ≤ 140737488355328)
 (h : ∀ v1 w1, w1.ownsRow base e size v1 (n + 1) (xs ++ ys) → Below base w0 w1 → W.grownBy w1 v.ownBlock → (v1.ownBlock = v.ownBlock ∨ ∃ b, v1.ownBlock = some b ∧ W.heap.size ≤ b) → wpList P ops Q rest (a.put o.dst v1) w1) :
 wpList P ops Q (o :: rest) a (W.alloc (.cells ys.toArray e)) := by
 obtain ⟨i0, hi, hzz⟩ := Option.map_eq_some_iff.1 hinfo
 simp only [Prod.mk.injEq] at hzz
 obtain ⟨hz0, hz1, hz2⟩ := hzz
 have hlen : n + 1 ≤ 140737488355328 := Nat.le_trans (Nat.le_mul_of_pos_right _ hb0) hl
 refine wpList_append_own_at (W.alloc (.cells ys.toArray e)) hgd s x t ho base e i0 z size bytes ht hi hz0 hz1 hz2 hz hs0 v n xs hs (HO.alloc _) ⟨W.heap.size, 0, none⟩ 1 1 ys hx (by rw [hys]; simp)
  (by simpa using World.news_of_block (cs := ys.toArray) (t := e) (fr := (0, 0)) (heap_alloc_new W (.cells ys.toArray e))) h1 (by simp only [maxLen]; omega) hl (by simp; omega) ?_
 intro v1 w1 hown hg _ hat
 refine h v1 w1 hown ((HB.alloc hbase _).grown hg (by simp; omega) (own_base HO)) (World.grownBy.trans (World.grownBy_alloc W _ _) hg) ?_
 rcases hat with hat | hat
 · exact .inl hat
 · exact .inr ⟨_, hat, by simp⟩
end
theorem blk_set {w : World} {g : Nat} {t : TypeId} {cs : Array Value} (h : w.heap[g]? = some (.cells cs t (0, 0))) (i : Nat) (u : Value) : (w.setCell ⟨g, i, none⟩ u).heap[g]? = some (.cells (cs.setIfInBounds i u) t (0, 0)) := by
 simp [World.setCell, Array.getElem?_modify, h]
theorem blk_far {w : World} {g : Nat} {t : TypeId} {cs : Array Value} (h : w.heap[g]? = some (.cells cs t (0, 0))) {p : Addr} (hp : g ≠ p.block) (u : Value) : (w.setCell p u).heap[g]? = some (.cells cs t (0, 0)) := (Below.heap_setCell w p u g hp).trans h
theorem blk_lt {w : World} {g : Nat} {o : Obj} (h : w.heap[g]? = some o) : g < w.heap.size := (Array.getElem?_eq_some_iff.1 h).1
theorem blk_cell {w : World} {g : Nat} {t : TypeId} {cs : Array Value} (h : w.heap[g]? = some (.cells cs t (0, 0))) (i : Nat) : w.cell? ⟨g, i, none⟩ = cs[i]? := cell_of_row w g i cs t (0, 0) h
theorem blk_frozen {w : World} {g : Nat} {t : TypeId} {cs : Array Value} (h : w.heap[g]? = some (.cells cs t (0, 0))) (i : Nat) : w.frozen? ⟨g, i, none⟩ = false := by simp [World.frozen?, h]
def KeepBut (w w' : World) (g : Nat) (row : Option Nat) : Prop := w.heap.size ≤ w'.heap.size ∧ ∀ i, i < w.heap.size → i ≠ g → some i ≠ row → w'.heap[i]? = w.heap[i]?
theorem KeepBut.refl (w : World) (g : Nat) (row : Option Nat) : KeepBut w w g row := ⟨Nat.le_refl _, fun _ _ _ _ => rfl⟩
theorem KeepBut.set_ {w w1 : World} {g : Nat} {row : Option Nat} (h : KeepBut w w1 g row) (j : Nat) (u : Value) : KeepBut w (w1.setCell ⟨g, j, none⟩ u) g row :=
 ⟨by simpa [World.setCell] using h.1, fun i hi hg hr => (Below.heap_setCell w1 ⟨g, j, none⟩ u i hg).trans (h.2 i hi hg hr)⟩
def Ev {α : Type} (g : Nat → Option α) (r : α) : Prop := ∃ K, ∀ k, K ≤ k → g k = some r
section
variable {P : Program} {ops : Array Oper} {o : Oper} {a : Act} {Q : Exit → Act → World → Prop} {K : Act → World → Prop}
theorem step_append_cells {w0 W : World} (base : Nat) (hw : Region.wanted o (yielded ops a.tmps) = true) (s x : Operand) (t e : TypeId) (z : Value) (size bytes : Nat)
 (ho : o.op = .call { callee := .builtin .append, args := #[s, x], argTypes := #[t, t] })
 (ht : P.underlying t = some (.slice e)) (hinfo : (P.info? e).map (fun i => (i.zero, i.size, i.bytes)) = some (some z, size, bytes)) (hz : z.cells.size = size) (hs0 : 0 < size) (hb0 : 0 < bytes)
 (v : Value) (n : Nat) (xs ys : List Value) (hs : a.eval s = v) (hx : a.eval x = .slice (some ⟨W.heap.size, 0, none⟩) 1 1) (hys : ys.length = size) (h1 : ∀ u ∈ ys, u.oneCell' = true)
 (HO : W.ownsRow base e size v n xs) (HB : Below base w0 W) (hbase : base ≤ W.heap.size) (hl : (n + 1) * bytes ≤ 140737488355328)
 (h : ∀ v1 w1, w1.ownsRow base e size v1 (n + 1) (xs ++ ys) → Below base w0 w1 → W.grownBy w1 v.ownBlock → (v1.ownBlock = v.ownBlock ∨ ∃ b, v1.ownBlock = some b ∧ W.heap.size ≤ b) → K (a.put o.dst v1) w1) :
 if Region.wanted o (yielded ops a.tmps) = true then Oper.wp P o a (W.alloc (.cells ys.toArray e)) K Q else K (a.put o.dst undef) (W.alloc (.cells ys.toArray e)) := by
 obtain ⟨i0, hi, hzz⟩ := Option.map_eq_some_iff.1 hinfo
 simp only [Prod.mk.injEq] at hzz
 obtain ⟨hz0, hz1, hz2⟩ := hzz
 have hlen : n + 1 ≤ 140737488355328 := Nat.le_trans (Nat.le_mul_of_pos_right _ hb0) hl
 rw [if_pos hw]
 obtain ⟨v1, w1, hr, hown, hg, _, hat⟩ := run_append_own_at (P := P) (W.alloc (.cells ys.toArray e)) base t o.type e i0 z size bytes ht hi hz0 hz1 hz2 hz hs0 v n xs (HO.alloc _) ⟨W.heap.size, 0, none⟩ 1 1 ys (by rw [hys]; simp)
  (by simpa using World.news_of_block (cs := ys.toArray) (t := e) (fr := (0, 0)) (heap_alloc_new W (.cells ys.toArray e))) h1 (by simp only [maxLen]; omega) hl (by simp; omega)
 unfold Oper.wp execOp
 simp only [ho, resolve, invoke, builtin, Sem.run_bind, Sem.run_pure, Result.andThen_ok, List.map_toArray, List.map_cons, List.map_nil, hs, hx, hr]
 refine h v1 w1 hown ((HB.alloc hbase _).grown hg (by simp; omega) (own_base HO)) (World.grownBy.trans (World.grownBy_alloc W _ _) hg) ?_
 rcases hat with hat | hat
 · exact .inl hat
 · exact .inr ⟨_, hat, by simp⟩
end
theorem own_weaken {w : World} {base base' : Nat} {e : TypeId} {size n : Nat} {v : Value} {xs : List Value} (h : w.ownsRow base e size v n xs) (hb : base' ≤ base) : w.ownsRow base' e size v n xs := by
 obtain ⟨h1, h2⟩ := h
 refine ⟨h1, ?_⟩
 rcases h2 with h2 | ⟨g, cap, cur, rfl, hg, r⟩
 · exact .inl h2
 · exact .inr ⟨g, cap, cur, rfl, Nat.le_trans hb hg, r⟩
section
variable {α : Type} {enc : α → Value} {d : α}
def encs (enc : α → Value) (xs : List α) : List Value := xs.map enc
def rdOf (d : α) (xs : List α) (i : Int) : α := xs.getD i.toNat d
theorem encs_length (xs : List α) : (encs enc xs).length = xs.length := by simp [encs]
theorem encs_append (xs ys : List α) : encs enc (xs ++ ys) = encs enc xs ++ encs enc ys := by simp [encs]
theorem encs_get (xs : List α) (j : Nat) (h : j < xs.length) : (encs enc xs)[j]? = some (enc (xs.getD j d)) := by
 simp [encs, List.getElem?_eq_getElem h, List.getD_eq_getElem?_getD]
def ReadsOf (enc : α → Value) (d : α) (w : World) (A : Option Addr) (n : Nat) (xs : List α) : Prop :=
 xs.length = n ∧ n ≤ 9223372036854775807 ∧ (0 < n → ∃ ad, A = some ad ∧ ∀ j, j < n → w.cell? (ad.add j) = some (enc (xs.getD j d)))
theorem ReadsOf.at_ {w : World} {A : Option Addr} {n : Nat} {xs : List α} (h : ReadsOf enc d w A n xs) (i : Int) (h0 : 0 ≤ i) (h1 : i < n) : ∃ ad, A = some ad ∧ w.cell? (ad.add i.toNat) = some (enc (rdOf d xs i)) := by
 obtain ⟨ad, e, hc⟩ := h.2.2 (by omega)
 exact ⟨ad, e, hc _ (by omega)⟩
theorem ReadsOf.take_ {w : World} {A : Option Addr} {n : Nat} {xs : List α} (h : ReadsOf enc d w A n xs) (i : Nat) (hi : i ≤ n) : ReadsOf enc d w A i (xs.take i) := by
 refine ⟨by rw [List.length_take, h.1]; omega, by have := h.2.1; omega, fun hp => ?_⟩
 obtain ⟨ad, e, hc⟩ := h.2.2 (by omega)
 refine ⟨ad, e, fun j hj => ?_⟩
 rw [hc j (by omega)]
 simp [List.getD_eq_getElem?_getD, hj]
theorem ReadsOf.drop_ {w : World} {A : Option Addr} {n c : Nat} {xs : List α} (h : ReadsOf enc d w A n xs) (i : Nat) (hi : i ≤ n) (hc : n ≤ c) : ReadsOf enc d w (if c = i then A else A.map (·.add i)) (n - i) (xs.drop i) := by
 refine ⟨by rw [List.length_drop, h.1], by have := h.2.1; omega, fun hp => ?_⟩
 obtain ⟨ad, rfl, hcell⟩ := h.2.2 (by omega)
 rw [if_neg (by omega)]
 refine ⟨ad.add i, rfl, fun j hj => ?_⟩
 have ha : (ad.add i).add j = ad.add (i + j) := by
  unfold Addr.add
  by_cases h1 : i = 0 <;> by_cases h2 : j = 0 <;> simp [h1, h2, Nat.add_assoc]
 rw [ha, hcell (i + j) (by omega)]
 simp [List.getD_eq_getElem?_getD, List.getElem?_drop]
theorem print_cut_of {P : Program} (enc : α → Value) (d : α) (t e : TypeId) (kl : IntKind) {i : TypeInfo} (ht : P.underlying t = some (.slice e)) (hi : P.info? e = some i) (hsz : i.size = 1) (A : Option Addr) (n c m : Nat) (hm : m ≤ n) :
 ∃ A' : Option Addr, (∀ W : World, (Instr.slice t (.slice A n c) (some (.int kl (m : Int))) none none).run P W = .ok (.slice A' (n - m) (c - m)) W) ∧
  ∀ (w : World) (xs : List α), n ≤ c → ReadsOf enc d w A n xs → ReadsOf enc d w A' (n - m) (xs.drop m) := by
 refine ⟨if c = m then A else A.map (·.add m), fun W => ?_, fun w xs hc h => h.drop_ m hm hc⟩
 have hel : P.elem t = e := by simp [Program.elem, ht]
 have hu : P.underlying t = some (.slice (P.elem t)) := by rw [hel]; exact ht
 rw [run_slice_l W t A n c hu kl (m : Int) (Int.natCast_nonneg _) (by omega), hel]
 simp [sizeOf, typeInfo, hi, hsz, sliced, Result.andThen]
end
section
variable {α : Type} {P : Program} {ops : Array Oper} {rest : List Oper} {o : Oper} {a : Act} {Q : Exit → Act → World → Prop}
end
def NeRow (v v' : Value) : Prop := ∀ k, v.ownBlock = some k → v'.ownBlock ≠ some k
theorem blk_below {w w1 : World} {g : Nat} {o : Obj} (h : w.heap[g]? = some o) (hb : Below w.heap.size w w1) : w1.heap[g]? = some o := (hb.block g (blk_lt h)).trans h
theorem blk_new (w : World) (o : Obj) : (w.alloc o).heap[w.heap.size]? = some o := heap_alloc_new w o
section
variable {P : Program}
end
theorem own_le {w : World} {base n m c size : Nat} {e : TypeId} {A : Option Addr} {xs : List Value} (h : w.ownsRow base e size (.slice A m c) n xs) : m ≤ c := by
 rcases h.2 with ⟨he, _⟩ | ⟨g, cap, cur, he, _, _, hnc, _⟩
 · injection he with _ h2 h3
   omega
 · injection he with _ h2 h3
   omega
def OwnRow {α : Type} (R : α → List Value → Prop) (e : TypeId) (size : Nat) (w : World) (base : Nat) (v : Value) (ps : List α) : Prop :=
 ∃ inner, w.ownsRow base e size v ps.length inner ∧ Reps R size ps inner
section
variable {α : Type} {R R' : α → List Value → Prop} {e : TypeId} {size : Nat} {w w1 : World} {base : Nat} {v : Value} {ps : List α}
theorem OwnRow.none_ (R : α → List Value → Prop) (e : TypeId) (size : Nat) (w : World) (base : Nat) : OwnRow R e size w base (.slice none 0 0) [] := ⟨[], own_nil _ _ _ _, Reps.none _ _⟩
theorem OwnRow.imp_ (h : OwnRow R e size w base v ps) (hR : ∀ p c, R p c → R' p c) : OwnRow R' e size w base v ps := by
 obtain ⟨inner, ho, hr⟩ := h
 exact ⟨inner, ho, hr.imp_ hR⟩
theorem OwnRow.reads (h : OwnRow R e size w base v ps) : ∃ A c, v = .slice A ps.length c ∧ ps.length ≤ c ∧ ReadsRow R size w A ps.length ps := by
 obtain ⟨inner, ho, hr⟩ := h
 obtain ⟨A, c, rfl, hrow⟩ := own_reads_row ho hr rfl
 exact ⟨A, c, rfl, own_le ho, hrow⟩
end
section
variable {P : Program} {ops : Array Oper} {rest : List Oper} {o : Oper} {a : Act} {Q : Exit → Act → World → Prop} {α : Type} {R : α → List Value → Prop}
end
section
variable {P : Program} {ops : Array Oper} {o : Oper} {a : Act} {Q : Exit → Act → World → Prop} {K : Act → World → Prop} {α : Type} {R : α → List Value → Prop}
end
theorem ReadsRow.inner_ {α : Type} {R : α → List Value → Prop} {size : Nat} {w : World} {ad : Addr} {n : Nat} {ps : List α} (h : ReadsRow R size w (some ad) n ps) :
 ∃ inner, Reps R size ps inner ∧ ∀ j u, inner[j]? = some u → w.cell? (ad.add j) = some u := by
 have key : ∀ m, m ≤ ps.length → ∃ inner, Reps R size (ps.take m) inner ∧ ∀ j u, inner[j]? = some u → w.cell? (ad.add j) = some u := by
  intro m
  induction m with
  | zero => exact fun _ => ⟨[], Reps.none _ _, fun j u hu => by simp at hu⟩
  | succ m ih =>
   intro hm
   obtain ⟨inner, hr, hc⟩ := ih (by omega)
   obtain ⟨ad', he, hcell⟩ := h.2.2 (by have := h.1; omega)
   injection he with he
   subst he
   obtain ⟨c, hcl, hp, hcc⟩ := hcell m _ (List.getElem?_eq_getElem (show m < ps.length by omega))
   refine ⟨inner ++ c, ?_, fun j u hu => ?_⟩
   · rw [List.take_succ_eq_append_getElem (show m < ps.length by omega)]
     exact hr.snoc hp hcl
   · have hil : inner.length = m * size := by rw [hr.1, List.length_take, Nat.min_eq_left (by omega)]
     rcases Nat.lt_or_ge j inner.length with hj | hj
     · rw [List.getElem?_append_left hj] at hu
       exact hc j u hu
     · rw [List.getElem?_append_right hj] at hu
       have := hcc (j - inner.length) u hu
       rwa [hil, Nat.add_sub_cancel' (by omega)] at this
 obtain ⟨inner, hr, hc⟩ := key ps.length (Nat.le_refl _)
 rw [List.take_length] at hr
 exact ⟨inner, hr, hc⟩
section
variable {α : Type} {P : Program}
theorem print_drop_of (enc : α → Value) (d : α) (t e : TypeId) (kl : IntKind) {i : TypeInfo} (ht : P.underlying t = some (.slice e)) (hi : P.info? e = some i) (hsz : i.size = 1) (A : Option Addr) (c : Nat) (xs : List α) (j : Int) (h0 : 0 ≤ j) (hm : j ≤ xs.length) (hc : xs.length ≤ c) :
 ∃ A' : Option Addr, (∀ W : World, (Instr.slice t (.slice A xs.length c) (some (.int kl j)) none none).run P W = .ok (.slice A' (xs.drop j.toNat).length (c - j.toNat)) W) ∧
  (∀ w : World, ReadsOf enc d w A xs.length xs → ReadsOf enc d w A' (xs.drop j.toNat).length (xs.drop j.toNat)) ∧ (xs.drop j.toNat).length ≤ c - j.toNat := by
 obtain ⟨m, rfl⟩ := Int.eq_ofNat_of_zero_le h0
 simp only [Int.toNat_natCast]
 have hmn : m ≤ xs.length := by omega
 obtain ⟨A', h1, h2⟩ := print_cut_of (P := P) enc d t e kl ht hi hsz A xs.length c m hmn
 have hl : (xs.drop m).length = xs.length - m := List.length_drop
 exact ⟨A', fun W => by rw [hl]; exact h1 W, fun w h => by rw [hl]; exact h2 w xs hc h, by rw [hl]; omega⟩
theorem print_mid_of (enc : α → Value) (d : α) (t e : TypeId) (kl kh : IntKind) {i : TypeInfo} (ht : P.underlying t = some (.slice e)) (hi : P.info? e = some i) (hsz : i.size = 1) (A : Option Addr) (c : Nat) (xs : List α) (a b : Int) (h0 : 0 ≤ a) (h1 : a ≤ b) (hm : b ≤ xs.length) (hc : xs.length ≤ c) :
 ∃ A' : Option Addr, (∀ W : World, (Instr.slice t (.slice A xs.length c) (some (.int kl a)) (some (.int kh b)) none).run P W = .ok (.slice A' ((xs.take b.toNat).drop a.toNat).length (c - a.toNat)) W) ∧
  (∀ w : World, ReadsOf enc d w A xs.length xs → ReadsOf enc d w A' ((xs.take b.toNat).drop a.toNat).length ((xs.take b.toNat).drop a.toNat)) ∧ ((xs.take b.toNat).drop a.toNat).length ≤ c - a.toNat := by
 have hlt : (xs.take b.toNat).length = b.toNat := by rw [List.length_take]; omega
 have hl : ((xs.take b.toNat).drop a.toNat).length = b.toNat - a.toNat := by rw [List.length_drop, hlt]
 refine ⟨if c = a.toNat then A else A.map (·.add a.toNat), fun W => ?_, fun w h => ?_, by rw [hl]; omega⟩
 · have hel : P.elem t = e := by simp [Program.elem, ht]
   have hu : P.underlying t = some (.slice (P.elem t)) := by rw [hel]; exact ht
   rw [run_slice_lh W t A xs.length c hu kl kh a b h0 h1 (by omega), hel, hl]
   simp [sizeOf, typeInfo, hi, hsz, sliced, Result.andThen]
 · have h2 := (h.take_ b.toNat (by omega)).drop_ (c := c) a.toNat (by omega) (by omega)
   rw [hl]
   exact h2
end
section
variable {P : Program} {ops : Array Oper} {rest : List Oper} {o : Oper} {a : Act} {Q : Exit → Act → World → Prop}
end
structure Kd (α : Type) where
 sz : Nat
 E : List Nat
 K : World → α → List Value → Prop
 M : World → Nat → (Nat → Prop) → α → List Value → Prop
 K_len : ∀ {w x cs}, K w x cs → cs.length = sz
 K_one : ∀ {w x cs}, K w x cs → ∀ u ∈ cs, u.oneCell' = true
 K_below : ∀ {w w1 : World} {x cs}, Below w.heap.size w w1 → K w x cs → K w1 x cs
 K_of_M : ∀ {w base ok x cs}, M w base ok x cs → K w x cs
 M_mono : ∀ {w base ok ok' x cs}, (∀ k, ok k → ok' k) → M w base ok x cs → M w base ok' x cs
 M_bound : ∀ {w : World} {base ok x cs}, M w base ok x cs → M w base (fun k => ok k ∧ base ≤ k ∧ k < w.heap.size ∧ ∃ q, q ∈ E ∧ ∃ cells, w.heap[k]? = some (.cells cells q (0, 0))) x cs
 M_move : ∀ {w w1 : World} {base ok x cs}, (∀ k, ok k → w1.heap[k]? = w.heap[k]?) → M w base ok x cs → M w1 base ok x cs
 M_lower : ∀ {w base base' ok x cs}, base' ≤ base → M w base ok x cs → M w base' ok x cs
theorem own_move {w w1 : World} {base : Nat} {e : TypeId} {size n : Nat} {v : Value} {xs : List Value} (h : w.ownsRow base e size v n xs) (hm : ∀ k, v.ownBlock = some k → w1.heap[k]? = w.heap[k]?) : w1.ownsRow base e size v n xs := by
 obtain ⟨h1, h2⟩ := h
 refine ⟨h1, ?_⟩
 rcases h2 with h2 | ⟨g, cap, cur, rfl, hg, hh, r⟩
 · exact .inl h2
 · exact .inr ⟨g, cap, cur, rfl, hg, (hm g (by simp [Value.ownBlock])).trans hh, r⟩
theorem own_typed {w : World} {base : Nat} {e : TypeId} {size n : Nat} {v : Value} {xs : List Value} (h : w.ownsRow base e size v n xs) (k : Nat) (hk : v.ownBlock = some k) : ∃ cells, w.heap[k]? = some (.cells cells e (0, 0)) := by
 rcases h.2 with ⟨rfl, _⟩ | ⟨g, cap, cur, rfl, hg, hh, r⟩
 · simp [Value.ownBlock] at hk
 · have : g = k := by simpa [Value.ownBlock] using hk
   subst this
   exact ⟨cur, hh⟩
namespace Kd
def C {α : Type} (d : Kd α) (w : World) (A : Option Addr) (n : Nat) (xs : List α) : Prop := ReadsRow (d.K w) d.sz w A n xs
def R {α : Type} (d : Kd α) (e : Nat) (w : World) (base : Nat) (ok : Nat → Prop) (v : Value) (xs : List α) : Prop :=
 (∀ k, v.ownBlock = some k → ok k) ∧ OwnRow (d.M w base (fun k => ok k ∧ some k ≠ v.ownBlock)) e d.sz w base v xs
section
variable {α : Type} {d : Kd α} {e : Nat} {w w1 : World} {base : Nat} {ok ok' : Nat → Prop} {v : Value} {xs : List α}
theorem C_below {A : Option Addr} {n : Nat} (h : d.C w A n xs) (hb : Below w.heap.size w w1) : d.C w1 A n xs := ReadsRow.imp_ h hb (fun _ _ hp => d.K_below hb hp)
theorem R_nil (d : Kd α) (e : Nat) (w : World) (base : Nat) (ok : Nat → Prop) : d.R e w base ok (.slice none 0 0) [] := ⟨fun k hk => by simp [Value.ownBlock] at hk, OwnRow.none_ _ _ _ _ _⟩
theorem R_mono (h : d.R e w base ok v xs) (hok : ∀ k, ok k → ok' k) : d.R e w base ok' v xs := ⟨fun k hk => hok k (h.1 k hk), h.2.imp_ (fun _ _ hp => d.M_mono (fun k hk => ⟨hok k hk.1, hk.2⟩) hp)⟩
theorem R_bound (h : d.R e w base ok v xs) : d.R e w base (fun k => ok k ∧ base ≤ k ∧ k < w.heap.size ∧ ∃ q, q ∈ e :: d.E ∧ ∃ cells, w.heap[k]? = some (.cells cells q (0, 0))) v xs := by
 obtain ⟨h0, inner, ho, hr⟩ := h
 refine ⟨fun k hk => ?_, inner, ho, hr.imp_ (fun _ _ hp => d.M_mono (fun k hk => ?_) (d.M_bound hp))⟩
 · obtain ⟨cells, hc⟩ := own_typed ho k hk
   exact ⟨h0 k hk, own_base ho k hk, own_lt ho k hk, e, List.mem_cons_self, cells, hc⟩
 · obtain ⟨⟨h1, h2⟩, h3, h4, q, hq, hc⟩ := hk
   exact ⟨⟨h1, h3, h4, q, List.mem_cons_of_mem _ hq, hc⟩, h2⟩
theorem R_move (h : d.R e w base ok v xs) (hm : ∀ k, ok k → w1.heap[k]? = w.heap[k]?) : d.R e w1 base ok v xs := by
 obtain ⟨h0, inner, ho, hr⟩ := h
 exact ⟨h0, inner, own_move ho (fun k hk => hm k (h0 k hk)), hr.imp_ (fun _ _ hp => d.M_move (fun k hk => hm k hk.1) hp)⟩
theorem R_lower {base' : Nat} (h : d.R e w base ok v xs) (hb : base' ≤ base) : d.R e w base' ok v xs := by
 obtain ⟨h0, inner, ho, hr⟩ := h
 exact ⟨h0, inner, own_weaken ho hb, hr.imp_ (fun _ _ hp => d.M_lower hb hp)⟩
theorem R_step (h : d.R e w base ok v xs) (hm : ∀ k, ok k → k < w.heap.size → w1.heap[k]? = w.heap[k]?) : d.R e w1 base ok v xs :=
 R_mono (R_move (R_bound h) (fun k hk => hm k hk.1 hk.2.2.1)) (fun _ hk => hk.1)
theorem M_step {x : α} {cs : List Value} (h : d.M w base ok x cs) (hm : ∀ k, ok k → k < w.heap.size → w1.heap[k]? = w.heap[k]?) : d.M w1 base ok x cs :=
 d.M_mono (fun _ hk => hk.1) (d.M_move (fun k hk => hm k hk.1 hk.2.2.1) (d.M_bound h))
theorem R_below (h : d.R e w base ok v xs) (hb : Below w.heap.size w w1) : d.R e w1 base ok v xs := R_step h (fun k _ hk => hb.block k hk)
theorem M_below {x : α} {cs : List Value} (h : d.M w base ok x cs) (hb : Below w.heap.size w w1) : d.M w1 base ok x cs := M_step h (fun k _ hk => hb.block k hk)
theorem R_grown (h : d.R e w base ok v xs) {row : Option Nat} (hg : w.grownBy w1 row) (hok : ∀ k, ok k → some k ≠ row) : d.R e w1 base ok v xs := R_step h (fun k ho hk => hg.block k hk (hok k ho))
theorem R_reads (h : d.R e w base ok v xs) : ∃ A c, v = .slice A xs.length c ∧ xs.length ≤ c ∧ d.C w A xs.length xs := by
 obtain ⟨A, c, he, hl, hr⟩ := OwnRow.reads h.2
 exact ⟨A, c, he, hl, hr.imp_ (Below.refl _ _) (fun _ _ hp => d.K_of_M hp)⟩
theorem R_slice (h : d.R e w base ok v xs) : ∃ A c, v = .slice A xs.length c := by
 obtain ⟨A, c, he, _⟩ := R_reads h
 exact ⟨A, c, he⟩
theorem R_own (h : d.R e w base ok v xs) : ∃ inner, w.ownsRow base e d.sz v xs.length inner := by
 obtain ⟨_, inner, ho, _⟩ := h
 exact ⟨inner, ho⟩
end
def scalar {α : Type} (enc : α → Value) (h1 : ∀ x, (enc x).oneCell' = true) : Kd α where
 sz := 1
 E := []
 K := fun _ x cs => cs = [enc x]
 M := fun _ _ _ x cs => cs = [enc x]
 K_len := fun h => by rw [h]; rfl
 K_one := fun h u hu => by
  rw [h] at hu
  rw [List.mem_singleton.1 hu]
  exact h1 _
 K_below := fun _ h => h
 K_of_M := fun h => h
 M_mono := fun _ h => h
 M_bound := fun h => h
 M_move := fun _ h => h
 M_lower := fun _ h => h
def int (k : IntKind) : Kd Int := scalar (Value.int k) (fun _ => rfl)
def bool : Kd Bool := scalar Value.bool (fun _ => rfl)
def string : Kd ByteArray := scalar Value.string (fun _ => rfl)
def slice {α : Type} (e : Nat) (d : Kd α) : Kd (List α) where
 sz := 1
 E := e :: d.E
 K := fun w xs cs => ∃ A c, cs = [.slice A xs.length c] ∧ xs.length ≤ c ∧ d.C w A xs.length xs
 M := fun w base ok xs cs => ∃ v, cs = [v] ∧ d.R e w base ok v xs
 K_len := by
  rintro w x cs ⟨A, c, rfl, _⟩
  rfl
 K_one := by
  rintro w x cs ⟨A, c, rfl, _⟩ u hu
  rw [List.mem_singleton.1 hu]
  rfl
 K_below := by
  rintro w w1 x cs hb ⟨A, c, rfl, hl, hr⟩
  exact ⟨A, c, rfl, hl, C_below hr hb⟩
 K_of_M := by
  rintro w base ok x cs ⟨v, rfl, h⟩
  obtain ⟨A, c, rfl, hl, hr⟩ := R_reads h
  exact ⟨A, c, rfl, hl, hr⟩
 M_mono := by
  rintro w base ok ok' x cs hok ⟨v, rfl, h⟩
  exact ⟨v, rfl, R_mono h hok⟩
 M_bound := by
  rintro w base ok x cs ⟨v, rfl, h⟩
  exact ⟨v, rfl, R_bound h⟩
 M_move := by
  rintro w w1 base ok x cs hm ⟨v, rfl, h⟩
  exact ⟨v, rfl, R_move h hm⟩
 M_lower := by
  rintro w base base' ok x cs hb ⟨v, rfl, h⟩
  exact ⟨v, rfl, R_lower h hb⟩
def pair {α β : Type} (a : Kd α) (b : Kd β) : Kd (α × β) where
 sz := a.sz + b.sz
 E := a.E ++ b.E
 K := fun w x cs => ∃ c0 c1, cs = c0 ++ c1 ∧ a.K w x.1 c0 ∧ b.K w x.2 c1
 M := fun w base ok x cs => ∃ c0 c1, cs = c0 ++ c1 ∧ a.M w base ok x.1 c0 ∧ b.M w base ok x.2 c1
 K_len := by
  rintro w x cs ⟨c0, c1, rfl, h0, h1⟩
  rw [List.length_append, a.K_len h0, b.K_len h1]
 K_one := by
  rintro w x cs ⟨c0, c1, rfl, h0, h1⟩ u hu
  rcases List.mem_append.1 hu with hu | hu
  · exact a.K_one h0 u hu
  · exact b.K_one h1 u hu
 K_below := by
  rintro w w1 x cs hb ⟨c0, c1, rfl, h0, h1⟩
  exact ⟨c0, c1, rfl, a.K_below hb h0, b.K_below hb h1⟩
 K_of_M := by
  rintro w base ok x cs ⟨c0, c1, rfl, h0, h1⟩
  exact ⟨c0, c1, rfl, a.K_of_M h0, b.K_of_M h1⟩
 M_mono := by
  rintro w base ok ok' x cs hok ⟨c0, c1, rfl, h0, h1⟩
  exact ⟨c0, c1, rfl, a.M_mono hok h0, b.M_mono hok h1⟩
 M_bound := by
  rintro w base ok x cs ⟨c0, c1, rfl, h0, h1⟩
  refine ⟨c0, c1, rfl, a.M_mono ?_ (a.M_bound h0), b.M_mono ?_ (b.M_bound h1)⟩
  · rintro k ⟨h2, h3, h4, q, hq, hc⟩
    exact ⟨h2, h3, h4, q, List.mem_append_left _ hq, hc⟩
  · rintro k ⟨h2, h3, h4, q, hq, hc⟩
    exact ⟨h2, h3, h4, q, List.mem_append_right _ hq, hc⟩
 M_move := by
  rintro w w1 base ok x cs hm ⟨c0, c1, rfl, h0, h1⟩
  exact ⟨c0, c1, rfl, a.M_move hm h0, b.M_move hm h1⟩
 M_lower := by
  rintro w base base' ok x cs hb ⟨c0, c1, rfl, h0, h1⟩
  exact ⟨c0, c1, rfl, a.M_lower hb h0, b.M_lower hb h1⟩
def iso {α β : Type} (d : Kd α) (f : β → α) : Kd β where
 sz := d.sz
 E := d.E
 K := fun w x cs => d.K w (f x) cs
 M := fun w base ok x cs => d.M w base ok (f x) cs
 K_len := d.K_len
 K_one := d.K_one
 K_below := d.K_below
 K_of_M := d.K_of_M
 M_mono := d.M_mono
 M_bound := d.M_bound
 M_move := d.M_move
 M_lower := d.M_lower
def bot {α : Type} (sz : Nat) (E : List Nat) : Kd α where
 sz := sz
 E := E
 K := fun _ _ _ => False
 M := fun _ _ _ _ _ => False
 K_len := fun h => h.elim
 K_one := fun h => h.elim
 K_below := fun _ h => h
 K_of_M := fun h => h
 M_mono := fun _ h => h
 M_bound := fun h => h
 M_move := fun _ h => h
 M_lower := fun _ h => h
def upto {α : Type} (F : Kd α → Kd α) (sz : Nat) (E : List Nat) : Nat → Kd α
 | 0 => bot sz E
 | n + 1 => F (upto F sz E n)
def fix {α : Type} (F : Kd α → Kd α) (sz : Nat) (E : List Nat) (hs : ∀ n, (upto F sz E n).sz = sz) (hE : ∀ n q, q ∈ (upto F sz E n).E → q ∈ E) : Kd α where
 sz := sz
 E := E
 K := fun w x cs => ∃ n, (upto F sz E n).K w x cs
 M := fun w base ok x cs => ∃ n, (upto F sz E n).M w base ok x cs
 K_len := by
  rintro w x cs ⟨n, h⟩
  rw [(upto F sz E n).K_len h, hs n]
 K_one := by
  rintro w x cs ⟨n, h⟩
  exact (upto F sz E n).K_one h
 K_below := by
  rintro w w1 x cs hb ⟨n, h⟩
  exact ⟨n, (upto F sz E n).K_below hb h⟩
 K_of_M := by
  rintro w base ok x cs ⟨n, h⟩
  exact ⟨n, (upto F sz E n).K_of_M h⟩
 M_mono := by
  rintro w base ok ok' x cs hok ⟨n, h⟩
  exact ⟨n, (upto F sz E n).M_mono hok h⟩
 M_bound := by
  rintro w base ok x cs ⟨n, h⟩
  refine ⟨n, (upto F sz E n).M_mono ?_ ((upto F sz E n).M_bound h)⟩
  rintro k ⟨h2, h3, h4, q, hq, hc⟩
  exact ⟨h2, h3, h4, q, hE n q hq, hc⟩
 M_move := by
  rintro w w1 base ok x cs hm ⟨n, h⟩
  exact ⟨n, (upto F sz E n).M_move hm h⟩
 M_lower := by
  rintro w base base' ok x cs hb ⟨n, h⟩
  exact ⟨n, (upto F sz E n).M_lower hb h⟩
theorem C_get {α : Type} {d : Kd α} {w : World} {A : Option Addr} {n : Nat} {xs : List α} (h : d.C w A n xs) (z : α) (i : Int) (h0 : 0 ≤ i) (h1 : i < n) :
 ∃ ad c, A = some ad ∧ c.length = d.sz ∧ d.K w (xs.getD i.toNat z) c ∧ ∀ j u, c[j]? = some u → w.cell? (ad.add (i.toNat * d.sz + j)) = some u := ReadsRow.get_ h z i h0 h1
theorem R_appended {α : Type} {d : Kd α} {e base : Nat} {ok okp : Nat → Prop} {W w1 : World} {v v1 : Value} {xs : List α} {p : α} {inner cs : List Value} (h0 : ∀ k, v.ownBlock = some k → ok k) (hr : Reps (d.M W base (fun k => ok k ∧ some k ≠ v.ownBlock)) d.sz xs inner) (hp : d.M W base okp p cs) (hokp : ∀ k, okp k → ok k ∧ some k ≠ v.ownBlock) (hfresh : ∀ k, W.heap.size ≤ k → ok k)
 (hown : w1.ownsRow base e d.sz v1 (xs.length + 1) (inner ++ cs)) (hg : W.grownBy w1 v.ownBlock) (hat : v1.ownBlock = v.ownBlock ∨ ∃ b, v1.ownBlock = some b ∧ W.heap.size ≤ b) : d.R e w1 base ok v1 (xs ++ [p]) := by
 have hne : ∀ k, some k ≠ v.ownBlock → k < W.heap.size → some k ≠ v1.ownBlock := by
  intro k hk hlt
  rcases hat with hat | ⟨b, hb, hle⟩
  · rw [hat]; exact hk
  · rw [hb]
    intro he
    injection he with he
    omega
 have step : ∀ {q : α} {c : List Value} {o : Nat → Prop}, d.M W base o q c → (∀ k, o k → ok k ∧ some k ≠ v.ownBlock) → d.M w1 base (fun k => ok k ∧ some k ≠ v1.ownBlock) q c := by
  intro q c o hq ho
  have h1 := d.M_move (w1 := w1) (fun k hk => hg.block k hk.2.2.1 (ho k hk.1).2) (d.M_bound hq)
  exact d.M_mono (fun k hk => ⟨(ho k hk.1).1, hne k (ho k hk.1).2 hk.2.2.1⟩) h1
 refine ⟨fun k hk => ?_, inner ++ cs, by rw [List.length_append, List.length_singleton]; exact hown, ?_⟩
 · rcases hat with hat | ⟨b, hb, hle⟩
   · exact h0 k (hat ▸ hk)
   · rw [hb] at hk
     injection hk with hk
     exact hfresh k (by omega)
 · exact (hr.imp_ (fun _ _ hq => step hq (fun _ hk => hk))).snoc (step hp hokp) (d.K_len (d.K_of_M hp))
section
variable {P : Program} {ops : Array Oper} {rest : List Oper} {o : Oper} {a : Act} {Q : Exit → Act → World → Prop} {α : Type}
theorem R_append (d : Kd α) {w0 W : World} (base : Nat) (hgd : o.guard = none) (s x : Operand) (t e : TypeId) (z : Value) (bytes : Nat)
 (ho : o.op = .call { callee := .builtin .append, args := #[s, x], argTypes := #[t, t] })
 (ht : P.underlying t = some (.slice e)) (hinfo : (P.info? e).map (fun i => (i.zero, i.size, i.bytes)) = some (some z, d.sz, bytes)) (hz : z.cells.size = d.sz) (hs0 : 0 < d.sz) (hb0 : 0 < bytes)
 (v : Value) (xs : List α) (p : α) (cs : List Value) (ok okp : Nat → Prop) (hs : a.eval s = v) (hx : a.eval x = .slice (some ⟨W.heap.size, 0, none⟩) 1 1) (hp : d.M W base okp p cs) (hokp : ∀ k, okp k → ok k ∧ some k ≠ v.ownBlock) (hfresh : ∀ k, W.heap.size ≤ k → ok k)
 (HO : d.R e W base ok v xs) (HB : Below base w0 W) (hbase : base ≤ W.heap.size) (hl : (xs.length + 1) * bytes ≤ 140737488355328)
 (h : ∀ v1 w1, d.R e w1 base ok v1 (xs ++ [p]) → Below base w0 w1 → W.grownBy w1 v.ownBlock → (v1.ownBlock = v.ownBlock ∨ ∃ b, v1.ownBlock = some b ∧ W.heap.size ≤ b) → wpList P ops Q rest (a.put o.dst v1) w1) :
 wpList P ops Q (o :: rest) a (W.alloc (.cells cs.toArray e)) := by
 obtain ⟨h0, inner, hown, hr⟩ := HO
 refine print_append_cells base hgd s x t e z d.sz bytes ho ht hinfo hz hs0 hb0 v xs.length inner cs hs hx (d.K_len (d.K_of_M hp)) (d.K_one (d.K_of_M hp)) hown HB hbase hl ?_
 intro v1 w1 hown1 hb1 hg1 hat1
 exact h v1 w1 (R_appended h0 hr hp hokp hfresh hown1 hg1 hat1) hb1 hg1 hat1
end
section
variable {P : Program} {ops : Array Oper} {o : Oper} {a : Act} {Q : Exit → Act → World → Prop} {Kc : Act → World → Prop} {α : Type}
theorem R_append_step (d : Kd α) {w0 W : World} (base : Nat) (hw : Region.wanted o (yielded ops a.tmps) = true) (s x : Operand) (t e : TypeId) (z : Value) (bytes : Nat)
 (ho : o.op = .call { callee := .builtin .append, args := #[s, x], argTypes := #[t, t] })
 (ht : P.underlying t = some (.slice e)) (hinfo : (P.info? e).map (fun i => (i.zero, i.size, i.bytes)) = some (some z, d.sz, bytes)) (hz : z.cells.size = d.sz) (hs0 : 0 < d.sz) (hb0 : 0 < bytes)
 (v : Value) (xs : List α) (p : α) (cs : List Value) (ok okp : Nat → Prop) (hs : a.eval s = v) (hx : a.eval x = .slice (some ⟨W.heap.size, 0, none⟩) 1 1) (hp : d.M W base okp p cs) (hokp : ∀ k, okp k → ok k ∧ some k ≠ v.ownBlock) (hfresh : ∀ k, W.heap.size ≤ k → ok k)
 (HO : d.R e W base ok v xs) (HB : Below base w0 W) (hbase : base ≤ W.heap.size) (hl : (xs.length + 1) * bytes ≤ 140737488355328)
 (h : ∀ v1 w1, d.R e w1 base ok v1 (xs ++ [p]) → Below base w0 w1 → W.grownBy w1 v.ownBlock → (v1.ownBlock = v.ownBlock ∨ ∃ b, v1.ownBlock = some b ∧ W.heap.size ≤ b) → Kc (a.put o.dst v1) w1) :
 if Region.wanted o (yielded ops a.tmps) = true then Oper.wp P o a (W.alloc (.cells cs.toArray e)) Kc Q else Kc (a.put o.dst undef) (W.alloc (.cells cs.toArray e)) := by
 obtain ⟨h0, inner, hown, hr⟩ := HO
 refine step_append_cells base hw s x t e z d.sz bytes ho ht hinfo hz hs0 hb0 v xs.length inner cs hs hx (d.K_len (d.K_of_M hp)) (d.K_one (d.K_of_M hp)) hown HB hbase hl ?_
 intro v1 w1 hown1 hb1 hg1 hat1
 exact h v1 w1 (R_appended h0 hr hp hokp hfresh hown1 hg1 hat1) hb1 hg1 hat1
end
theorem reps_scalar {α : Type} {enc : α → Value} (xs : List α) : Reps (fun (x : α) (cs : List Value) => cs = [enc x]) 1 xs (encs enc xs) := by
 refine ⟨by simp [encs], fun j p hj => ?_⟩
 obtain ⟨hl, hp⟩ := List.getElem?_eq_some_iff.1 hj
 have hl' : j < (encs enc xs).length := by rw [encs_length]; exact hl
 rw [Nat.mul_one, List.drop_eq_getElem_cons hl']
 simp [encs, hp]
theorem R_of_own {α : Type} {enc : α → Value} {h1 : ∀ x, (enc x).oneCell' = true} {e : Nat} {w : World} {base : Nat} {ok : Nat → Prop} {v : Value} {xs : List α} (ho : w.ownsRow base e 1 v xs.length (encs enc xs)) (hok : ∀ k, v.ownBlock = some k → ok k) : (scalar enc h1).R e w base ok v xs := ⟨hok, encs enc xs, ho, reps_scalar xs⟩
theorem own_of_R {α : Type} {enc : α → Value} {h1 : ∀ x, (enc x).oneCell' = true} {e : Nat} {w : World} {base : Nat} {ok : Nat → Prop} {v : Value} {xs : List α} (h : (scalar enc h1).R e w base ok v xs) : w.ownsRow base e 1 v xs.length (encs enc xs) := by
 obtain ⟨_, inner, ho, hr⟩ := h
 have : inner = encs enc xs := by
  apply List.ext_getElem?
  intro j
  rcases Nat.lt_or_ge j xs.length with hj | hj
  · have h2 := hr.2 j _ (List.getElem?_eq_getElem hj)
    have hl : j < inner.length := by have := hr.1; simp [scalar] at this; omega
    have h3 : (inner.drop (j * 1)).take 1 = [enc xs[j]] := h2
    rw [Nat.mul_one, List.drop_eq_getElem_cons hl] at h3
    have h4 : inner[j] = enc xs[j] := by
     have h5 := congrArg List.head? h3
     rw [List.take_succ_cons] at h5
     exact Option.some.inj h5
    rw [List.getElem?_eq_getElem hl, h4]
    simp [encs, List.getElem?_eq_getElem hj]
  · have h3 : inner.length = xs.length := by have := hr.1; simp [scalar] at this; omega
    rw [List.getElem?_eq_none (by omega), List.getElem?_eq_none (by rw [encs_length]; omega)]
 rw [← this]
 exact ho
theorem C_of_reads {α : Type} {enc : α → Value} {d : α} {h1 : ∀ x, (enc x).oneCell' = true} {w : World} {A : Option Addr} {n : Nat} {xs : List α} (h : ReadsOf enc d w A n xs) : (scalar enc h1).C w A n xs := by
 refine ⟨h.1, h.2.1, fun hn => ?_⟩
 obtain ⟨ad, e, hc⟩ := h.2.2 hn
 refine ⟨ad, e, fun j p hj => ⟨[enc p], rfl, rfl, fun i u hu => ?_⟩⟩
 obtain ⟨hl, hp⟩ := List.getElem?_eq_some_iff.1 hj
 have h2 := hc j (by have := h.1; omega)
 rw [List.getD_eq_getElem?_getD, hj] at h2
 cases i with
 | zero =>
  have : enc p = u := by simpa using hu
  subst this
  simpa [scalar] using h2
 | succ i => simp at hu
theorem reads_of_C {α : Type} {enc : α → Value} {d : α} {h1 : ∀ x, (enc x).oneCell' = true} {w : World} {A : Option Addr} {n : Nat} {xs : List α} (h : (scalar enc h1).C w A n xs) : ReadsOf enc d w A n xs := by
 refine ⟨h.1, h.2.1, fun hn => ?_⟩
 obtain ⟨ad, e, hc⟩ := h.2.2 hn
 refine ⟨ad, e, fun j hj => ?_⟩
 have hl : j < xs.length := by have := h.1; omega
 obtain ⟨c, _, hK, hcell⟩ := hc j _ (List.getElem?_eq_getElem hl)
 have hK' : c = [enc xs[j]] := hK
 subst hK'
 have := hcell 0 _ rfl
 simpa [scalar, List.getD_eq_getElem?_getD, List.getElem?_eq_getElem hl] using this
end Kd
namespace Kd
structure Mono {α β : Type} (F : Kd α → Kd β) : Prop where
 sz : ∀ d d' : Kd α, d.sz = d'.sz → (F d).sz = (F d').sz
 K : ∀ d d' : Kd α, d.sz = d'.sz → (∀ w x cs, d.K w x cs → d'.K w x cs) → ∀ w x cs, (F d).K w x cs → (F d').K w x cs
 M : ∀ d d' : Kd α, d.sz = d'.sz → (∀ w base ok x cs, d.M w base ok x cs → d'.M w base ok x cs) → ∀ w base ok x cs, (F d).M w base ok x cs → (F d').M w base ok x cs
def Sub {α β : Type} (F : Kd α → Kd β) (E : List Nat) : Prop := ∀ d : Kd α, (∀ q, q ∈ d.E → q ∈ E) → ∀ q, q ∈ (F d).E → q ∈ E
section
variable {α : Type} {F : Kd α → Kd α} {sz : Nat} {E : List Nat} {hs : ∀ n, (upto F sz E n).sz = sz} {hE : ∀ n q, q ∈ (upto F sz E n).E → q ∈ E}
end
end Kd
namespace Kd
end Kd
namespace Kd
section
variable {α β : Type} {d : Kd α} {d' : Kd β} {e e' : Nat} {w w1 W : World} {base b b' : Nat} {ok ok' okv oku : Nat → Prop} {v u : Value} {xs : List α} {ys : List β}
theorem R_drewN (h : d.R e w base ok v xs) (m : Nat) : d.R e (w.drewN m) base ok v xs := R_below h (pw_below_drewN (Below.refl _ _) m)
theorem C_nil (d : Kd α) (w : World) : d.C w none ([] : List α).length [] := ⟨rfl, by simp, fun h => absurd h (Nat.lt_irrefl 0)⟩
end
section
variable {w W : World} {A : Option Addr} {n : Nat}
theorem at_int {k : IntKind} {xs : List Int} (h : (Kd.int k).C w A n xs) (i : Int) (h0 : 0 ≤ i) (h1 : i < n) : ∃ ad, A = some ad ∧ w.cell? (ad.add i.toNat) = some (.int k (rd xs i)) :=
 ReadsOf.at_ (reads_of_C (enc := Value.int k) (d := (0 : Int)) (h1 := fun _ => rfl) h) i h0 h1
variable {α : Type} {enc : α → Value} {h1 : ∀ x, (enc x).oneCell' = true} {e base g cap : Nat} {ok : Nat → Prop} {xs : List α}
end
section
variable {P : Program} {ops : Array Oper} {rest : List Oper} {o : Oper} {a : Act} {Q : Exit → Act → World → Prop}
theorem event_run {W w1 : World} {v : Value} (hgd : o.guard = none) (hrun : (execOp a.eval o).run P W = .ok (.value v) w1) (h : wpList P ops Q rest (a.put o.dst v) w1) : wpList P ops Q (o :: rest) a W := by
 refine wpList_plain hgd fun K hK => ?_
 unfold Oper.wp
 rw [hrun]
 exact hK _ _ h
variable {α : Type}
theorem R_lit (d : Kd α) {w0 W : World} (base e : Nat) (hgd : o.guard = none) {N : Tmp} (_hd : o.dst = some N) {xs : List α} {inner : List Value} {ok okp : Nat → Prop}
 (hrun : (execOp a.eval o).run P W = .ok (.value (.slice (some ⟨W.heap.size, 0, none⟩) xs.length xs.length)) (W.alloc (.cells inner.toArray e)))
 (hrep : Reps (d.M W base okp) d.sz xs inner) (hok : ∀ k, okp k → ok k) (hfresh : ok W.heap.size) (HB : Below base w0 W) (hbase : base ≤ W.heap.size) (hm : xs.length ≤ 9223372036854775807)
 (h : ∀ v1 w1, d.R e w1 base ok v1 xs → Below base w0 w1 → W.grownBy w1 none → (∃ b, v1.ownBlock = some b ∧ W.heap.size ≤ b) → wpList P ops Q rest (a.put o.dst v1) w1) : wpList P ops Q (o :: rest) a W := by
 refine event_run hgd hrun (h _ _ ⟨fun k hk => ?_, inner, ?_, ?_⟩ (HB.alloc hbase _) (World.grownBy_alloc W _ none) ⟨W.heap.size, by simp [Value.ownBlock], Nat.le_refl _⟩)
 · have : W.heap.size = k := by simpa [Value.ownBlock] using hk
   subst this
   exact hfresh
 · have h2 := World.ownsRow_lit (base := base) (e := e) (size := d.sz) W inner.toArray xs.length hbase (by simpa [maxLen] using hm) (by simpa using hrep.1)
   simpa using h2
 · refine hrep.imp_ (fun p c hp => d.M_mono (fun k hk => ⟨hok k hk.1, fun he => ?_⟩) (M_below (d.M_bound hp) (below_alloc (Below.refl _ _) _)))
   have h3 : k = W.heap.size := by simpa [Value.ownBlock] using he
   have := hk.2.2.1
   omega
theorem reps_made {α : Type} {R : α → List Value → Prop} {z : Value} {size : Nat} {z0 : α} (hz : z.cells.size = size) (hs : 0 < size) (h0 : R z0 z.cells.toList) (m : Nat) : Reps R size (List.replicate m z0) (madeCells z.cells (m * size)).toList := by
 refine ⟨by simp [size_madeCells], fun j p hj => ?_⟩
 obtain ⟨hjl, hp⟩ := List.getElem?_eq_some_iff.1 hj
 have hjm : j < m := by simpa using hjl
 have hp' : z0 = p := by simpa using hp
 subst hp'
 have hle : j * size + size ≤ m * size := by rw [← Nat.succ_mul]; exact Nat.mul_le_mul_right _ hjm
 have : ((madeCells z.cells (m * size)).toList.drop (j * size)).take size = z.cells.toList := by
  apply List.ext_getElem
  · simp [size_madeCells, hz]
    omega
  · intro i h1 h2
    have hi : i < size := by rw [Array.length_toList, hz] at h2; exact h2
    have hmod : (j * size + i) % size = i := by
     rw [Nat.mul_comm, Nat.mul_add_mod]
     exact Nat.mod_eq_of_lt hi
    simp [madeCells, hz, hmod]
    rw [getElem!_pos z.cells i (by omega)]
 rw [this]
 exact h0
theorem R_make (d : Kd α) {w0 W : World} (base e : Nat) (hgd : o.guard = none) {N : Tmp} (hd : o.dst = some N) (t : TypeId) (x y : Operand) (ho : o.op = .makeSlice t x y) (n : Int) (hx : a.eval x = .int .i64 n) (hy : a.eval y = .int .i64 n)
 (ht : P.underlying t = some (.slice e)) (z : Value) (bytes : Nat) (hinfo : (P.info? e).map (fun i => (i.zero, i.size, i.bytes)) = some (some z, d.sz, bytes)) (hz : z.cells.size = d.sz) (hs0 : 0 < d.sz) (hb0 : 0 < bytes)
 (z0 : α) {ok okp : Nat → Prop} (hzero : d.M W base okp z0 z.cells.toList) (hok : ∀ k, okp k → ok k) (hfresh : ok W.heap.size) (h0 : 0 ≤ n) (hl : n.toNat * bytes ≤ 281474976710656) (HB : Below base w0 W) (hbase : base ≤ W.heap.size)
 (h : ∀ v1 w1, d.R e w1 base ok v1 (List.replicate n.toNat z0) → Below base w0 w1 → W.grownBy w1 none → (∃ b, v1.ownBlock = some b ∧ W.heap.size ≤ b) → wpList P ops Q rest (a.put o.dst v1) w1) : wpList P ops Q (o :: rest) a W := by
 obtain ⟨m, rfl⟩ := Int.eq_ofNat_of_zero_le h0
 simp only [Int.toNat_natCast] at hl h
 obtain ⟨i0, hi, hzz⟩ := Option.map_eq_some_iff.1 hinfo
 simp only [Prod.mk.injEq] at hzz
 obtain ⟨hz0, hz1, hz2⟩ := hzz
 have hm : m ≤ 281474976710656 := Nat.le_trans (Nat.le_mul_of_pos_right _ hb0) hl
 have hr := run_make (P := P) W t e i0 z ht hi hz0 .i64 .i64 (m : Int) (m : Int) (by omega) (by omega)
  (by
   have h3 : ((i0.bytes * m : Nat) : Int) ≤ 281474976710656 := by rw [hz2, Nat.mul_comm]; omega
   rwa [Int.natCast_mul] at h3) (by omega)
 simp only [Int.toNat_natCast] at hr
 rw [hz1] at hr
 refine R_lit d base e hgd hd (xs := List.replicate m z0) (inner := (madeCells z.cells (m * d.sz)).toList) (okp := okp) (ok := ok) ?_ (reps_made hz hs0 hzero m) hok hfresh HB hbase (by simp; omega) h
 simp [execOp, ho, hx, hy, hr]
end
end Kd
section
variable {P : Program}
theorem cut_to (t e : TypeId) (kh : IntKind) {i : TypeInfo} (ht : P.underlying t = some (.slice e)) (hi : P.info? e = some i) (A : Option Addr) (n c : Nat) (j : Int) (h0 : 0 ≤ j) (hm : j ≤ n) (hc : n ≤ c) :
 ∀ W : World, (Instr.slice t (.slice A n c) none (some (.int kh j)) none).run P W = .ok (.slice A j.toNat c) W := by
 intro W
 have hel : P.elem t = e := by simp [Program.elem, ht]
 have hu : P.underlying t = some (.slice (P.elem t)) := by rw [hel]; exact ht
 have ha : (A.map fun x => x.add 0) = A := by cases A <;> simp [Addr.add]
 rw [run_slice_h W t A n c hu kh j h0 (by omega), hel]
 simp [sizeOf, typeInfo, hi, sliced, Result.andThen, ha]
end
def QRow (w : World) (base : Nat) (e : TypeId) (size : Nat) (v : Value) (n : Nat) (xs : List Value) : Prop :=
 xs.length = n * size ∧
 ((n = 0 ∧ ∃ A, v = .slice A 0 0 ∧ ∀ a, A = some a → base ≤ a.block ∧ ∃ cur, w.heap[a.block]? = some (.cells cur e (0, 0))) ∨
  ∃ g off cap cur, v = .slice (some ⟨g, off * size, none⟩) n cap ∧ base ≤ g ∧ w.heap[g]? = some (.cells cur e (0, 0)) ∧ n ≤ cap ∧ off + cap ≤ maxLen ∧ cur.size = (off + cap) * size ∧ (cur.toList.drop (off * size)).take (n * size) = xs)
section
variable {w w1 : World} {base n size : Nat} {e : TypeId} {v : Value} {xs : List Value}
theorem setCells_far {g : Nat} : ∀ (vs : List Value) (o : Nat) {w : World} (k : Nat), k ≠ g → (w.setCells g o vs).heap[k]? = w.heap[k]?
 | [], _, _, _, _ => rfl
 | v :: r, o, w, k, hk => by
  rw [World.setCells, setCells_far r (o + 1) k hk]
  exact Below.heap_setCell w ⟨g, o, none⟩ v k hk
theorem setCells_same (g : Nat) : ∀ (vs : List Value) (o : Nat) (w : World), (w.setCells g o vs).os = w.os ∧ (w.setCells g o vs).tape = w.tape ∧ (w.setCells g o vs).output = w.output ∧ (w.setCells g o vs).heap.size = w.heap.size
 | [], _, _ => ⟨rfl, rfl, rfl, rfl⟩
 | v :: r, o, w => by
  obtain ⟨h1, h2, h3, h4⟩ := setCells_same g r (o + 1) (w.setCell ⟨g, o, none⟩ v)
  rw [World.setCells]
  exact ⟨h1, h2, h3, by rw [h4]; simp [World.setCell]⟩
theorem setCells_row {g : Nat} {e : TypeId} : ∀ (vs : List Value) (o : Nat) (w : World) (cur : Array Value), w.heap[g]? = some (.cells cur e (0, 0)) → o + vs.length ≤ cur.size →
 ∃ cur', (w.setCells g o vs).heap[g]? = some (.cells cur' e (0, 0)) ∧ cur'.size = cur.size ∧ cur'.toList = cur.toList.take o ++ vs ++ cur.toList.drop (o + vs.length)
 | [], o, w, cur, h, _ => ⟨cur, h, rfl, by simp⟩
 | v :: r, o, w, cur, h, hl => by
  have h2 := blk_set h o v
  simp only [List.length_cons] at hl
  obtain ⟨cur', h3, h4, h5⟩ := setCells_row r (o + 1) (w.setCell ⟨g, o, none⟩ v) _ h2 (by simp; omega)
  refine ⟨cur', h3, by rw [h4]; simp, ?_⟩
  rw [h5, Array.toList_setIfInBounds]
  have ho : o < cur.toList.length := by rw [Array.length_toList]; omega
  rw [List.take_set, List.drop_set_of_lt (by omega)]
  simp only [List.length_cons]
  rw [show o + 1 + r.length = o + (r.length + 1) by omega]
  congr 1
  rw [List.take_succ_eq_append_getElem ho, List.set_append_right _ _ (by rw [List.length_take]; omega)]
  have ho' : o < cur.size := by omega
  simp [Nat.min_eq_left (Nat.le_of_lt ho')]
end
section
variable {P : Program}
end
namespace Kd
def Q {α : Type} (d : Kd α) (e : Nat) (w : World) (base : Nat) (ok : Nat → Prop) (v : Value) (xs : List α) : Prop :=
 (∀ k, v.ownBlock = some k → ok k) ∧ ∃ inner, QRow w base e d.sz v xs.length inner ∧ Reps (d.M w base (fun k => ok k ∧ some k ≠ v.ownBlock)) d.sz xs inner
section
variable {α : Type} {d : Kd α} {e : Nat} {w w1 W : World} {base : Nat} {ok ok' : Nat → Prop} {v : Value} {xs : List α}
end
section
variable {P : Program} {ops : Array Oper} {rest : List Oper} {o : Oper} {a : Act} {Q' : Exit → Act → World → Prop} {Kc : Act → World → Prop} {α : Type}
end
end Kd
namespace Kd
section
variable {α : Type} {d : Kd α} {e e' : Nat} {w w1 W : World} {base : Nat} {ok : Nat → Prop} {u v : Value} {xs : List α}
end
end Kd
namespace Kd
section
variable {α : Type} {d : Kd α} {e base g n cap : Nat} {ok okp : Nat → Prop} {W : World} {xs : List α}
end
end Kd
namespace Kd
def fixed {α : Type} (d : Kd α) (w0 : World) : Kd α where
 sz := d.sz
 E := []
 K := fun _ x cs => d.K w0 x cs
 M := fun _ _ _ x cs => d.K w0 x cs
 K_len := d.K_len
 K_one := d.K_one
 K_below := fun _ h => h
 K_of_M := fun h => h
 M_mono := fun _ h => h
 M_bound := fun h => h
 M_move := fun _ h => h
 M_lower := fun _ h => h
def or_ {α : Type} (a b : Kd α) (h : b.sz = a.sz) : Kd α where
 sz := a.sz
 E := a.E ++ b.E
 K := fun w x cs => a.K w x cs ∨ b.K w x cs
 M := fun w base ok x cs => a.M w base ok x cs ∨ b.M w base ok x cs
 K_len := fun hk => hk.elim a.K_len (fun hk => (b.K_len hk).trans h)
 K_one := fun hk => hk.elim a.K_one b.K_one
 K_below := fun hb hk => hk.imp (a.K_below hb) (b.K_below hb)
 K_of_M := fun hk => hk.imp a.K_of_M b.K_of_M
 M_mono := fun hok hk => hk.imp (a.M_mono hok) (b.M_mono hok)
 M_bound := fun hk => hk.imp
  (fun hk => a.M_mono (fun _ ⟨h1, h2, h3, q, hq, hc⟩ => ⟨h1, h2, h3, q, List.mem_append_left _ hq, hc⟩) (a.M_bound hk))
  (fun hk => b.M_mono (fun _ ⟨h1, h2, h3, q, hq, hc⟩ => ⟨h1, h2, h3, q, List.mem_append_right _ hq, hc⟩) (b.M_bound hk))
 M_move := fun hm hk => hk.imp (a.M_move hm) (b.M_move hm)
 M_lower := fun hb hk => hk.imp (a.M_lower hb) (b.M_lower hb)
def mix {α : Type} (e : Nat) (d dm : Kd α) (w0 : World) : Kd (List α) := or_ (fixed (slice e d) w0) (slice e dm) rfl
section
variable {α : Type} {F : Kd α → Kd α} {sz : Nat} {E : List Nat} {hs : ∀ n, (upto F sz E n).sz = sz} {hE : ∀ n q, q ∈ (upto F sz E n).E → q ∈ E}
end
end Kd
namespace Kd
theorem reps_append {α : Type} {R : α → List Value → Prop} {size : Nat} {ps qs : List α} {cs ds : List Value} (h : Reps R size ps cs) (h' : Reps R size qs ds) : Reps R size (ps ++ qs) (cs ++ ds) := by
 refine ⟨by rw [List.length_append, List.length_append, h.1, h'.1, Nat.add_mul], fun j p hj => ?_⟩
 rcases Nat.lt_or_ge j ps.length with hlt | hge
 · rw [List.getElem?_append_left hlt] at hj
   have hle : j * size + size ≤ cs.length := by rw [h.1, ← Nat.succ_mul]; exact Nat.mul_le_mul_right _ hlt
   rw [List.drop_append_of_le_length (by omega), List.take_append_of_le_length (by rw [List.length_drop]; omega)]
   exact h.2 j p hj
 · rw [List.getElem?_append_right hge] at hj
   have h2 := h'.2 (j - ps.length) p hj
   have hle : ps.length * size ≤ j * size := Nat.mul_le_mul_right _ hge
   rw [List.drop_append, List.drop_eq_nil_of_le (by rw [h.1]; exact hle), List.nil_append, h.1, ← Nat.sub_mul]
   exact h2
section
variable {P : Program} {ops : Array Oper} {rest : List Oper} {o : Oper} {a : Act} {Q : Exit → Act → World → Prop} {α : Type}
theorem R_append_rows (d : Kd α) {Rr : α → List Value → Prop} {w0 W : World} (base : Nat) (hgd : o.guard = none) (s x : Operand) (t e : TypeId) (z : Value) (bytes : Nat)
 (ho : o.op = .call { callee := .builtin .append, args := #[s, x], argTypes := #[t, t] })
 (ht : P.underlying t = some (.slice e)) (hinfo : (P.info? e).map (fun i => (i.zero, i.size, i.bytes)) = some (some z, d.sz, bytes)) (hz : z.cells.size = d.sz) (hs0 : 0 < d.sz) (hb0 : 0 < bytes)
 (v : Value) (xs ys : List α) (A : Option Addr) (m c : Nat) (ok okp : Nat → Prop) (hs : a.eval s = v) (hx : a.eval x = .slice A m c)
 (HO : d.R e W base ok v xs) (HR : ReadsRow Rr d.sz W A m ys) (hKM : ∀ x cs, Rr x cs → d.M W base okp x cs) (hokp : ∀ k, okp k → ok k ∧ some k ≠ v.ownBlock) (hfresh : ∀ k, W.heap.size ≤ k → ok k)
 (HB : Below base w0 W) (hbase : base ≤ W.heap.size) (hl : (xs.length + m) * bytes ≤ 140737488355328)
 (h : ∀ v1 w1, d.R e w1 base ok v1 (xs ++ ys) → Below base w0 w1 → W.grownBy w1 v.ownBlock → (v1.ownBlock = v.ownBlock ∨ ∃ b, v1.ownBlock = some b ∧ W.heap.size ≤ b) → wpList P ops Q rest (a.put o.dst v1) w1) :
 wpList P ops Q (o :: rest) a W := by
 obtain ⟨i0, hi, hzz⟩ := Option.map_eq_some_iff.1 hinfo
 simp only [Prod.mk.injEq] at hzz
 obtain ⟨hz0, hz1, hz2⟩ := hzz
 have hm : ys.length = m := HR.1
 have hlen : xs.length + m ≤ 140737488355328 := Nat.le_trans (Nat.le_mul_of_pos_right _ hb0) hl
 obtain ⟨hok, inner, hown, hr⟩ := HO
 have hrun : ∃ v1 w1, (Builtin.append_ #[t, t] o.type #[v, .slice A m c]).run P W = .ok v1 w1 ∧ d.R e w1 base ok v1 (xs ++ ys) ∧ W.grownBy w1 v.ownBlock ∧ (v1.ownBlock = v.ownBlock ∨ ∃ b, v1.ownBlock = some b ∧ W.heap.size ≤ b) := by
  rcases A with _ | ad
  · have h0 : m = 0 := by
     rcases Nat.eq_zero_or_pos m with h0 | h0
     · exact h0
     · obtain ⟨ad, h, _⟩ := HR.2.2 h0
       cases h
    subst h0
    obtain rfl : ys = [] := List.eq_nil_of_length_eq_zero hm
    refine ⟨v, W, ?_, by rw [List.append_nil]; exact ⟨hok, inner, hown, hr⟩, World.grownBy.refl W _, .inl rfl⟩
    rcases hown.2 with ⟨rfl, hn⟩ | ⟨g, cap, cur, rfl, _, _, hnc, _⟩
    · simp [Builtin.append_, run_underlying ht, sizeOf, typeInfo, hi, Builtin.lenOf, Builtin.firstCells]
    · simp [Builtin.append_, run_underlying ht, sizeOf, typeInfo, hi, Builtin.lenOf, Builtin.firstCells, hnc, storeCells]
  · obtain ⟨news, hnr, hnc⟩ := ReadsRow.inner_ HR
    have hnM : Reps (d.M W base okp) d.sz ys news := hnr.imp_ (fun p c hp => hKM p c hp)
    have hone : ∀ u ∈ news, u.oneCell' = true := by
     intro u hu
     obtain ⟨q, hq, rfl⟩ := List.mem_iff_getElem.1 hu
     have hql : q / d.sz < ys.length := by
      rw [Nat.div_lt_iff_lt_mul hs0]
      rw [← hnM.1]
      exact hq
     have hc := hnM.2 (q / d.sz) _ (List.getElem?_eq_getElem hql)
     refine d.K_one (d.K_of_M hc) _ ?_
     rw [List.mem_iff_getElem?]
     refine ⟨q % d.sz, ?_⟩
     rw [List.getElem?_take, if_pos (Nat.mod_lt _ hs0), List.getElem?_drop, Nat.mul_comm, Nat.div_add_mod, List.getElem?_eq_getElem hq]
    obtain ⟨v1, w1, hrun, h2, hg, _, hat⟩ := run_append_own_at (P := P) W base t o.type e i0 z d.sz bytes ht hi hz0 hz1 hz2 hz hs0 v xs.length inner hown ad m c news (by rw [hnM.1, hm]) hnc hone (by simp only [maxLen]; omega) hl hbase
    have hat' : v1.ownBlock = v.ownBlock ∨ ∃ b, v1.ownBlock = some b ∧ W.heap.size ≤ b := by
     rcases hat with hat | hat
     · exact .inl hat
     · exact .inr ⟨_, hat, Nat.le_refl _⟩
    have hne : ∀ k, some k ≠ v.ownBlock → k < W.heap.size → some k ≠ v1.ownBlock := by
     intro k hk hlt
     rcases hat' with hat | ⟨b, hb, hle⟩
     · rw [hat]; exact hk
     · rw [hb]
       intro he
       injection he with he
       omega
    have step : ∀ {q : α} {c : List Value} {o : Nat → Prop}, d.M W base o q c → (∀ k, o k → ok k ∧ some k ≠ v.ownBlock) → d.M w1 base (fun k => ok k ∧ some k ≠ v1.ownBlock) q c := by
     intro q c o hq ho
     have h1 := d.M_move (w1 := w1) (fun k hk => hg.block k hk.2.2.1 (ho k hk.1).2) (d.M_bound hq)
     exact d.M_mono (fun k hk => ⟨(ho k hk.1).1, hne k (ho k hk.1).2 hk.2.2.1⟩) h1
    refine ⟨v1, w1, hrun, ⟨fun k hk => ?_, inner ++ news, by rw [List.length_append, hm]; exact h2, reps_append (hr.imp_ (fun _ _ hq => step hq (fun _ hk => hk))) (hnM.imp_ (fun _ _ hq => step hq hokp))⟩, hg, hat'⟩
    rcases hat' with hat | ⟨b, hb, hle⟩
    · exact hok k (hat ▸ hk)
    · rw [hb] at hk
      injection hk with hk
      exact hfresh k (by omega)
 obtain ⟨v1, w1, hr1, h1, hg, hat⟩ := hrun
 refine wpList_plain hgd fun K hK => ?_
 unfold Oper.wp execOp
 simp only [ho, resolve, invoke, builtin, Sem.run_bind, Sem.run_pure, Result.andThen_ok, List.map_toArray, List.map_cons, List.map_nil, hs, hx, hr1]
 exact hK _ _ (h v1 w1 h1 (HB.grown hg hbase (own_base hown)) hg hat)
theorem R_copy {enc : α → Value} {h1 : ∀ x, (enc x).oneCell' = true} (d : α) {w0 W : World} (base : Nat) (hgd : o.guard = none) (s x : Operand) (t t' e : TypeId)
 (ho : o.op = .call { callee := .builtin .copy, args := #[s, x], argTypes := #[t, t'] }) (ht : P.underlying t = some (.slice e)) (hinfo : (P.info? e).map (·.size) = some 1)
 (v : Value) (xs ys : List α) (A : Option Addr) (m c : Nat) (ok : Nat → Prop) (hs : a.eval s = v) (hx : a.eval x = .slice A m c)
 (HO : (scalar enc h1).R e W base ok v xs) (HR : (scalar enc h1).C W A m ys) (HB : Below base w0 W) (hbase : base ≤ W.heap.size)
 (h : ∀ w1, (scalar enc h1).R e w1 base ok v (ys.take (min m xs.length) ++ xs.drop (min m xs.length)) → Below base w0 w1 → W.grownBy w1 v.ownBlock → wpList P ops Q rest (a.put o.dst (.int .i64 ((min m xs.length : Nat) : Int))) w1) :
 wpList P ops Q (o :: rest) a W := by
 have hR := reads_of_C (enc := enc) (d := d) (h1 := h1) HR
 have hm : ys.length = m := hR.1
 have hown := own_of_R HO
 have fin : ∀ w1, (Builtin.copy_ #[t, t'] o.type #[v, .slice A m c]).run P W = .ok (goInt ((min m xs.length : Nat) : Int)) w1 → (scalar enc h1).R e w1 base ok v (ys.take (min m xs.length) ++ xs.drop (min m xs.length)) → W.grownBy w1 v.ownBlock → wpList P ops Q (o :: rest) a W := by
  intro w1 hr hrow hg
  refine wpList_plain hgd fun K hK => ?_
  unfold Oper.wp execOp
  simp only [ho, resolve, invoke, builtin, Sem.run_bind, Sem.run_pure, Result.andThen_ok, List.map_toArray, List.map_cons, List.map_nil, hs, hx, hr]
  exact hK _ _ (h w1 hrow (HB.grown hg hbase (own_base hown)) hg)
 rcases Nat.eq_zero_or_pos (min m xs.length) with h0 | hp
 · obtain ⟨A', c', hv⟩ := own_slice hown
   refine fin W ?_ (by rw [h0, List.take_zero, List.drop_zero, List.nil_append]; exact HO) (World.grownBy.refl W _)
   rw [h0, hv]
   exact run_copy_none W t t' o.type e A' A xs.length c' m c ht hinfo h0
 · obtain ⟨ad, hA, hc⟩ := hR.2.2 (by omega)
   rcases hown.2 with ⟨_, hx0⟩ | ⟨g, cap, cur, hv, hb, hh, hnc, hcm, hcs, htake⟩
   · omega
   have hcs1 : cur.size = cap := by omega
   have hsrc : ∀ j u, (encs enc (ys.take (min m xs.length)))[j]? = some u → W.cell? (ad.add j) = some u := by
    intro j u hu
    have hj : j < (ys.take (min m xs.length)).length := by
     rcases Nat.lt_or_ge j (ys.take (min m xs.length)).length with h | h
     · exact h
     · rw [List.getElem?_eq_none (by rw [encs_length]; exact h)] at hu
       cases hu
    have hjm : j < min m xs.length := by rw [List.length_take] at hj; omega
    rw [encs_get (d := d) _ j hj] at hu
    rw [hc j (by omega), ← hu]
    simp [List.getD_eq_getElem?_getD, hjm]
   have hkl : (encs enc (ys.take (min m xs.length))).length = min m xs.length := by rw [encs_length, List.length_take]; omega
   have hr := run_copy_cells (P := P) W t t' o.type e g 0 xs.length cap ad m c (encs enc (ys.take (min m xs.length))) ht hinfo (by rw [hkl]) hsrc
    (fun j hj => by rw [cell_of_row W g _ cur e (0, 0) hh]; simp; omega) (fun j _ => blk_frozen hh _) (by intro u hu; simp only [encs, List.mem_map] at hu; obtain ⟨q, _, rfl⟩ := hu; exact h1 q)
   obtain ⟨cur', h3, h4, h5⟩ := setCells_row (encs enc (ys.take (min m xs.length))) 0 W cur hh (by rw [hkl]; omega)
   obtain ⟨s1, s2, s3, s4⟩ := setCells_same g (encs enc (ys.take (min m xs.length))) 0 W
   refine fin _ (by rw [hv, hA, hr, hkl]) (R_of_own ?_ HO.1) ⟨s1, s2, s3, by rw [s4]; exact Nat.le_refl _, fun k _ hk => setCells_far _ _ k (fun he => hk (by rw [hv, he]; simp [Value.ownBlock]))⟩
   have hln : (ys.take (min m xs.length) ++ xs.drop (min m xs.length)).length = xs.length := by
    rw [List.length_append, List.length_take, List.length_drop]
    omega
   rw [hln]
   refine ⟨by rw [encs_length, hln, Nat.mul_one], .inr ⟨g, cap, cur', hv, hb, h3, hnc, hcm, by rw [h4, hcs], ?_⟩⟩
   rw [h5, List.take_zero, List.nil_append, hkl, Nat.zero_add, encs_append, Nat.mul_one]
   rw [List.take_append, hkl, List.take_of_length_le (by rw [hkl]; omega)]
   congr 1
   have htk : cur.toList.take xs.length = encs enc xs := by rw [← htake, Nat.mul_one]
   have hd : encs enc (xs.drop (min m xs.length)) = (encs enc xs).drop (min m xs.length) := by simp [encs, List.map_drop]
   rw [hd, ← htk, List.drop_take]
end
end Kd
namespace Kd
section
variable {P : Program} {ops : Array Oper} {rest : List Oper} {o : Oper} {a : Act} {Q : Exit → Act → World → Prop} {α : Type}
end
end Kd
namespace Kd
section
variable {α : Type} {k : Kd α} {w : World} {A : Option Addr} {xs : List α} {m c : Nat}
theorem C_take (h : k.C w A xs.length xs) (hm : m ≤ xs.length) : k.C w A (xs.take m).length (xs.take m) := by
 have hl : (xs.take m).length = m := by rw [List.length_take]; omega
 refine ⟨rfl, by rw [hl]; have := h.2.1; omega, fun hp => ?_⟩
 obtain ⟨ad, e, hc⟩ := h.2.2 (by omega)
 refine ⟨ad, e, fun j p hj => hc j p ?_⟩
 rw [List.getElem?_take] at hj
 split at hj
 · exact hj
 · cases hj
end
end Kd
section
variable {P : Program}
end
theorem string_of_reads {P : Program} {w : World} {src dst e : TypeId} {A : Option Addr} {n c : Nat} {xs : List Int} (hs : P.underlying src = some (.slice e)) (he : P.underlying e = some (.int .u8)) (hd : P.underlying dst = some .string)
 (h : ReadsInt w .u8 A n xs) : (convert src dst (.slice A n c)).run P w = .ok (.string (strOfNums xs)) w := by
 have hn : xs.length = n := h.1
 rcases A with _ | ad
 · have h0 : n = 0 := by
    rcases Nat.eq_zero_or_pos n with h0 | h0
    · exact h0
    · obtain ⟨ad, h', _⟩ := h.2.2 h0
      cases h'
   subst h0
   obtain rfl : xs = [] := List.eq_nil_of_length_eq_zero hn
   exact run_convert_bytes_nil w src e hs he 0 c dst hd
 · have hl : (loadCells ad n).run P w = .ok (xs.map (Value.int .u8)).toArray w := by
    have := run_loadCells_list (P := P) w ad (xs.map (Value.int .u8)) (fun j v hj => by
     have hjl : j < xs.length := by
      rcases Nat.lt_or_ge j xs.length with h' | h'
      · exact h'
      · rw [List.getElem?_eq_none (by rw [List.length_map]; exact h')] at hj
        cases hj
     obtain ⟨ad', he', hc⟩ := h.2.2 (by omega)
     injection he' with he'
     subst he'
     rw [hc j (by omega)]
     rw [List.getElem?_map, List.getElem?_eq_getElem hjl] at hj
     simp at hj
     subst hj
     simp [List.getD_eq_getElem?_getD, List.getElem?_eq_getElem hjl])
    simpa [hn] using this
   rw [run_convert_bytes_string w src dst e _ n c hs he hd, run_bytesToString w ad n c xs hl, foldl_push_bytes]
   simp [strOfNums, ByteArray.empty, ByteArray.emptyWithCapacity]
   rfl
theorem Kd.C_string {P : Program} {w : World} {src dst e : TypeId} {A : Option Addr} {n c : Nat} {xs : List Int} (hs : P.underlying src = some (.slice e)) (he : P.underlying e = some (.int .u8)) (hd : P.underlying dst = some .string)
 (h : (Kd.int .u8).C w A n xs) : (convert src dst (.slice A n c)).run P w = .ok (.string (strOfNums xs)) w :=
 string_of_reads hs he hd (Kd.reads_of_C (enc := Value.int .u8) (d := (0 : Int)) (h1 := fun _ => rfl) h)
theorem below_size {w W : World} (h : Below w.heap.size w W) : w.heap.size ≤ W.heap.size := h.size
theorem below_step {w W w2 : World} (h : Below w.heap.size w W) (k : Below W.heap.size W w2) : Below w.heap.size w w2 := below_then h h.size k
theorem below_set {w W : World} {g j : Nat} {v : Value} (h : Below w.heap.size w W) (hg : w.heap.size ≤ g) : Below w.heap.size w (W.setCell ⟨g, j, none⟩ v) := h.setCell hg _
theorem keep_drewN {w W : World} {g : Nat} {row : Option Nat} (h : KeepBut w W g row) (m : Nat) : KeepBut w (W.drewN m) g row := h
theorem blk_put {w : World} {g : Nat} {t : TypeId} {cs cs' : Array Value} (h : w.heap[g]? = some (.cells cs t (0, 0))) (i : Nat) (u : Value) (e : cs.setIfInBounds i u = cs') : (w.setCell ⟨g, i, none⟩ u).heap[g]? = some (.cells cs' t (0, 0)) := e ▸ blk_set h i u
theorem below_drew1 {base : Nat} {w W : World} (h : Below base w W) : Below base w W.drew := h.drew
namespace Kd
section
variable {α β : Type} {d : Kd α} {d' : Kd β} {e e' base base' n : Nat} {ok ok' : Nat → Prop} {w W w1 W1 : World} {v u : Value} {xs : List α} {ys : List β} {A : Option Addr} {c : Nat}
end
section
variable {α : Type} {enc : α → Value} {h1 : ∀ x, (enc x).oneCell' = true} {w W : World} {A : Option Addr} {n g : Nat} {xs : List α}
end
end Kd
namespace Kd
section
variable {α : Type} {d : Kd α} {e base g : Nat} {ok : Nat → Prop} {w w1 : World} {v : Value} {xs : List α} {o : Obj}
end
end Kd
section
variable {P : Program} {ops : Array Oper} {rest : List Oper} {o : Oper} {a : Act} {Q : Exit → Act → World → Prop}
theorem box_event {W : World} (hgd : o.guard = none) {N : Tmp} (_hd : o.dst = some N) {cs : Array Value} {t : TypeId}
 (hrun : (execOp a.eval o).run P W = .ok (.value (.pointer (some ⟨W.heap.size, 0, none⟩))) (W.alloc (.cells cs t (0, 0))))
 (h : ∀ g, g = W.heap.size → ∀ w1, w1.heap[g]? = some (.cells cs t (0, 0)) → Below W.heap.size W w1 → wpList P ops Q rest (a.put o.dst (.pointer (some ⟨g, 0, none⟩))) w1) : wpList P ops Q (o :: rest) a W :=
 Kd.event_run hgd hrun (h _ rfl _ (blk_new W _) (below_alloc (Below.refl _ _) _))
end
namespace Kd
section
variable {α : Type} {enc : α → Value} {h1 : ∀ x, (enc x).oneCell' = true} {e base g n cap : Nat} {ok : Nat → Prop} {W : World} {xs : List α}
end
end Kd
section
variable {P : Program} {ops : Array Oper} {rest : List Oper} {o : Oper} {a : Act} {Q : Exit → Act → World → Prop}
end
namespace Kd
section
variable {α : Type} {enc : α → Value} {h1 : ∀ x, (enc x).oneCell' = true} {e base g n cap : Nat} {ok : Nat → Prop} {W : World} {xs : List α}
end
end Kd
section
variable {P : Program} {ops : Array Oper} {rest : List Oper} {o : Oper} {a : Act} {Q : Exit → Act → World → Prop} {W : World}
theorem gate_dst {N : Tmp} (_hN : o.dst = some N) (h : wpList P ops Q (o :: rest) a W) : wpList P ops Q (o :: rest) a W := h
end
section
variable {P : Program} {ops : Array Oper} {o : Oper} {a : Act} {Q : Exit → Act → World → Prop} {Kc : Act → World → Prop}
namespace Kd
variable {α : Type}
end Kd
end
inductive Vals (P : Program) (tmps : Array Value) (w : World) : List ResultVar → List Value → Prop where
 | nil : Vals P tmps w [] []
 | tmp {u : Tmp} {rs : List ResultVar} {vs : List Value} (h : Vals P tmps w rs vs) : Vals P tmps w (.tmp u :: rs) (tmps.getD u undef :: vs)
 | cell {p : Tmp} {ty : TypeId} {rs : List ResultVar} {vs : List Value} (g : Nat) (t : TypeId) (cs : Array Value) (fr : Nat × Nat) (d : TypeDesc)
  (hp : tmps.getD p undef = .pointer (some ⟨g, 0, none⟩)) (hg : w.heap[g]? = some (.cells cs t fr))
  (hu : P.underlying ty = some d) (hd : (match d with | .struct _ | .array _ _ => true | _ => false) = true) (hi : (P.info? ty).map (·.size) = some cs.size)
  (h : Vals P tmps w rs vs) : Vals P tmps w (.cell p ty :: rs) (.agg cs :: vs)
section
variable {P : Program} {tmps : Array Value} {w : World}
end
namespace Kd
section
variable {P : Program} {α : Type}
end
section
variable {P : Program} {ops : Array Oper} {rest : List Oper} {o : Oper} {a : Act} {Q : Exit → Act → World → Prop} {Kc : Act → World → Prop} {α : Type}
end
end Kd
end Go.Proofs.YtmbnjgnmblgjoaaW.PrintWords
end
section
namespace Go.Proofs.Ytmbnjgnmblgjoaa.Open
open Go.RowKit Go.ChangeShapes Go.WideShapes Go.Proofs.YtmbnjgnmblgjoaaW.PrintWords
set_option linter.unusedVariables false
def Opens {α : Type} (P : Program) (t : TypeId) (K : Kd α) (wf : α → Prop) (bk : α → Nat) : Prop :=
 ∀ {H : Type} (enc : TypeId × Value → H) (w : World) (fuel : Nat) (cs : List Value) (d : DataW H) (ps : List MemPlace), DataW.trod enc P w 0 (fun _ => true) true fuel t cs = some (d, ps) →
  (DataW.weights P t d).all (· ≤ reachBytes) = true → ∃ x, K.K w x cs ∧ wf x ∧ bk x ≤ Rows.uptoBulk d
theorem opens_int {P : Program} {t : TypeId} {k : IntKind} (ht : P.underlying t = some (.int k)) : Opens P t (Kd.int k) (fun n => (Lit.int k n).wf = true) (fun _ => 1) := by
 intro H enc w fuel cs d ps h _
 obtain ⟨n, rfl, hd, hw⟩ := DataW.trod_int ht h
 obtain ⟨rfl, _⟩ := Prod.mk.inj hd
 exact ⟨n, rfl, hw, Nat.le_refl _⟩
def sum1 {α : Type} (bk : α → Nat) : List α → Nat
 | [] => 0
 | x :: l => bk x + sum1 bk l
theorem weights_in {H : Type} {P : Program} {e : TypeId} : ∀ {l : List (DataW H)} {d : DataW H}, d ∈ l → ∀ n ∈ d.weights P e, n ∈ DataW.weightsAll P e l
 | x :: l, d, h, n, hn => by
  rw [DataW.weightsAll, List.mem_append]
  rcases List.mem_cons.1 h with rfl | h
  · exact .inl hn
  · exact .inr (weights_in h n hn)
theorem list_of {α : Type} {n : Nat} {p : Nat → α → Prop} (h : ∀ i, i < n → ∃ x, p i x) : ∃ xs : List α, xs.length = n ∧ ∀ i x, xs[i]? = some x → p i x := by
 induction n with
 | zero => exact ⟨[], rfl, fun i x hx => by simp at hx⟩
 | succ n ih =>
  obtain ⟨xs, hl, hx⟩ := ih (fun i hi => h i (by omega))
  obtain ⟨x, hp⟩ := h n (by omega)
  refine ⟨xs ++ [x], by simp [hl], fun i y hy => ?_⟩
  rcases Nat.lt_or_ge i n with hi | hi
  · rw [List.getElem?_append_left (by omega)] at hy
    exact hx i y hy
  · have hlt := (List.getElem?_eq_some_iff.1 hy).1
    rw [List.length_append, hl, List.length_singleton] at hlt
    have hin : i = n := by omega
    subst hin
    rw [List.getElem?_append_right (by omega), hl] at hy
    simp at hy
    subst hy
    exact hp
theorem sum_le {α : Type} {H : Type} {bk : α → Nat} {D : Nat → DataW H} : ∀ {xs : List α} (k : Nat), (∀ i x, xs[i]? = some x → bk x ≤ Rows.uptoBulk (D (k + i))) → sum1 bk xs ≤ Rows.uptoBulkAll ((List.range xs.length).map fun i => D (k + i))
 | [], k, h => by simp [sum1]
 | x :: l, k, h => by
  have h0 := h 0 x rfl
  have h1 := sum_le (xs := l) (D := D) (bk := bk) (k + 1) (fun i y hy => by have := h (i + 1) y (by simpa using hy); rwa [show k + (i + 1) = k + 1 + i by omega] at this)
  rw [List.length_cons, List.range_succ_eq_map, List.map_cons, List.map_map, Rows.uptoBulkAll, sum1]
  have e : (List.range l.length).map ((fun i => D (k + i)) ∘ Nat.succ) = (List.range l.length).map fun i => D (k + 1 + i) := List.map_congr_left fun i _ => by simp only [Function.comp_apply, Nat.succ_eq_add_one]; congr 1; omega
  rw [e]
  simp only [Nat.add_zero] at h0 ⊢
  omega
theorem opens_slice {α : Type} {P : Program} {t e : TypeId} {K : Kd α} {wf : α → Prop} {bk : α → Nat} (ht : P.underlying t = some (.slice e)) (hc : P.cellsOf e = K.sz) {B : Nat} (hB : P.bytesOf e = B) (h : Opens P e K wf bk) (q : Nat) :
 Opens P t (Kd.slice q K) (fun xs => xs.length * B ≤ 140737488351232 ∧ ∀ x ∈ xs, wf x) (fun xs => sum1 bk xs + 1) := by
 intro H enc w fuel cs d ps hd hw
 rcases Go.Deep.open_slice ht hd with ⟨rfl, hx⟩ | ⟨a, len, cap, m, n, D, Pl, rfl, hb, hl, hm, hmm, hx, hel⟩
 · obtain ⟨rfl, _⟩ := Prod.mk.inj hx
   exact ⟨[], ⟨none, 0, rfl, Nat.le_refl _, rfl, by simp, fun h0 => by simp at h0⟩, ⟨by simp, fun x hx => by simp at hx⟩, by simp [Rows.uptoBulk, sum1]⟩
 · simp only [if_true] at hmm
   subst hmm
   obtain ⟨rfl, _⟩ := Prod.mk.inj hx
   have hw1 : ∀ x ∈ DataW.weights P t (DataW.slice ((List.range len).map D) ((List.range (m - len)).map fun j => D (len + j))), x ≤ reachBytes := fun x hx => by
    have := List.all_eq_true.1 hw x hx
    simpa using this
   have hb0 : (len + (m - len)) * B ≤ reachBytes := by
    have := hw1 _ (by rw [DataW.weights, ht]; exact List.mem_cons_self)
    simpa [hB] using this
   obtain ⟨xs, hxl, hxs⟩ := list_of (n := len) (p := fun i x => (∃ c, c.length = K.sz ∧ K.K w x c ∧ ∀ j u, c[j]? = some u → w.cell? (a.add (i * K.sz + j)) = some u) ∧ wf x ∧ bk x ≤ Rows.uptoBulk (D i)) (fun i hi => by
    obtain ⟨c, h1, h2⟩ := hel i (by omega)
    obtain ⟨_, h3, h4⟩ := World.cells?_some h1
    have hwi : (DataW.weights P e (D i)).all (· ≤ reachBytes) = true := by
     rw [List.all_eq_true]
     intro x hx
     have := hw1 x (by rw [DataW.weights, ht]; refine List.mem_cons_of_mem _ (List.mem_append_left _ (weights_in (d := D i) ?_ x hx)); exact List.mem_map.2 ⟨i, List.mem_range.2 hi, rfl⟩)
     simpa using this
    obtain ⟨x, k1, k2, k3⟩ := h enc w n c (D i) (Pl i) h2 hwi
    refine ⟨x, ⟨c, by rw [h3, hc], k1, fun j u hj => ?_⟩, k2, k3⟩
    have hjl : j < P.cellsOf e := by have := (List.getElem?_eq_some_iff.1 hj).1; omega
    have := h4 j hjl
    rw [Go.Deep.add_add, hc] at this
    rw [this, hj])
   have hml : m ≤ 9223372036854775807 := by simpa [maxLen] using hm
   refine ⟨xs, ⟨some a, m, by rw [hxl], by omega, rfl, by omega, fun _ => ⟨a, rfl, fun j x hj => (hxs j x hj).1⟩⟩, ⟨?_, fun x hx => ?_⟩, ?_⟩
   · rw [hxl]
     have h1 : len * B ≤ (len + (m - len)) * B := Nat.mul_le_mul_right _ (by omega)
     have h2 : reachBytes = 140737488351232 := rfl
     omega
   · obtain ⟨j, hj, rfl⟩ := List.getElem_of_mem hx
     exact (hxs j _ (List.getElem?_eq_getElem hj)).2.1
   · have := sum_le (D := D) (bk := bk) (xs := xs) 0 (fun i x hx => by rw [Nat.zero_add]; exact (hxs i x hx).2.2)
     rw [hxl] at this
     simp only [Nat.zero_add] at this
     simp only [Rows.uptoBulk]
     have e : (List.map (fun i => D i) (List.range len)) = List.map D (List.range len) := rfl
     rw [e] at this
     omega
def OpensF {α : Type} (P : Program) (o : Nat) (fs : List Field) (K : Kd α) (wf : α → Prop) (bk : α → Nat) : Prop :=
 ∀ {H : Type} (enc : TypeId × Value → H) (w : World) (n : Nat) (cs : List Value) (ys : List (DataW H × List MemPlace)), ys.length = fs.length →
  (∀ (i : Nat) (f : Field), fs[i]? = some f → DataW.trod enc P w 0 (fun _ => true) true n f.type ((cs.drop f.offset).take (P.cellsOf f.type)) = ys[i]?) →
  (DataW.weightsEach P (fs.map (·.type)) (ys.map (·.1))).all (· ≤ reachBytes) = true → ∃ x, K.K w x ((cs.drop o).take K.sz) ∧ wf x ∧ bk x ≤ Rows.uptoBulkAll (ys.map (·.1))
theorem opensF_one {α : Type} {P : Program} {o : Nat} {f : Field} {K : Kd α} {wf : α → Prop} {bk : α → Nat} (ho : f.offset = o) (hc : P.cellsOf f.type = K.sz) (h : Opens P f.type K wf bk) : OpensF P o [f] K wf bk := by
 intro H enc w n cs ys hl hy hw
 match ys, hl with
 | [y], _ =>
  have h0 := hy 0 f rfl
  rw [ho, hc] at h0
  simp only [List.map_cons, List.map_nil, DataW.weightsEach, List.append_nil] at hw
  obtain ⟨x, k1, k2, k3⟩ := h enc w n _ y.1 y.2 h0 hw
  exact ⟨x, k1, k2, by simpa [Rows.uptoBulkAll] using k3⟩
theorem opensF_cons {α β : Type} {P : Program} {o : Nat} {f : Field} {fs : List Field} {K : Kd α} {K' : Kd β} {wf : α → Prop} {bk : α → Nat} {wf' : β → Prop} {bk' : β → Nat} (ho : f.offset = o) (hc : P.cellsOf f.type = K.sz) (h : Opens P f.type K wf bk)
 (h' : OpensF P (o + K.sz) fs K' wf' bk') : OpensF P o (f :: fs) (Kd.pair K K') (fun x => wf x.1 ∧ wf' x.2) (fun x => bk x.1 + bk' x.2) := by
 intro H enc w n cs ys hl hy hw
 match ys, hl with
 | y :: ys, hl =>
  have h0 := hy 0 f rfl
  rw [ho, hc] at h0
  simp only [List.map_cons, DataW.weightsEach, List.all_append, Bool.and_eq_true] at hw
  obtain ⟨x, k1, k2, k3⟩ := h enc w n _ y.1 y.2 h0 hw.1
  obtain ⟨x', j1, j2, j3⟩ := h' enc w n cs ys (by simpa using hl) (fun i g hg => by have := hy (i + 1) g (by simpa using hg); simpa using this) hw.2
  refine ⟨(x, x'), ⟨_, _, ?_, k1, j1⟩, ⟨k2, j2⟩, ?_⟩
  · show List.take (K.sz + K'.sz) (List.drop o cs) = _
    rw [List.take_add, List.drop_drop]
  · simp only [List.map_cons, Rows.uptoBulkAll]; omega
theorem opens_struct {α : Type} {P : Program} {t : TypeId} {fs : Array Field} {l : List Field} {K : Kd α} {wf : α → Prop} {bk : α → Nat} (ht : P.underlying t = some (.struct fs)) (hl : fs.toList = l) (hc : P.cellsOf t = K.sz) (h : OpensF P 0 l K wf bk) : Opens P t K wf (fun x => bk x + 1) := by
 subst hl
 intro H enc w fuel cs d ps hd hw
 obtain ⟨xs, n, rfl, hx, hcl, hxl, hf⟩ := DataW.trod_struct ht hd
 obtain ⟨rfl, _⟩ := Prod.mk.inj hx
 rw [DataW.weights, ht] at hw
 obtain ⟨x, k1, k2, k3⟩ := h enc w n cs xs (by simpa using hxl) (fun i f hi => hf i f (by simpa using hi)) hw
 refine ⟨x, ?_, k2, by simp only [Rows.uptoBulk]; omega⟩
 rw [List.drop_zero, ← hc, ← hcl, List.take_length] at k1
 exact k1
theorem opens_iso {α β : Type} {P : Program} {t : TypeId} {K : Kd α} {wf : α → Prop} {bk : α → Nat} (f : β → α) (g : α → β) (hfg : ∀ a, f (g a) = a) (h : Opens P t K wf bk) : Opens P t (Kd.iso K f) (fun x => wf (f x)) (fun x => bk (f x)) := by
 intro H enc w fuel cs d ps hd hw
 obtain ⟨x, k1, k2, k3⟩ := h enc w fuel cs d ps hd hw
 exact ⟨g x, by show K.K w (f (g x)) cs; rw [hfg]; exact k1, by show wf (f (g x)); rw [hfg]; exact k2, by show bk (f (g x)) ≤ _; rw [hfg]; exact k3⟩
theorem Opens.arg {α : Type} {P : Program} {t : TypeId} {K : Kd α} {wf : α → Prop} {bk : α → Nat} (h : Opens P t K wf bk) {H : Type} {enc : TypeId × Value → H} {w : World} {v : Value} {d : DataW H} {ps : List MemPlace} {ts : List TypeId} {ds : List (DataW H)} {j : Nat}
 (hsz : (DataW.weightsEach P ts ds).all (· ≤ reachBytes) = true) (ht : ts[j]? = some t) (hd : ds[j]? = some d) (hv : DataW.Trod enc P w 0 (fun _ => true) true t v d ps) : ∃ x, K.K w x v.cells.toList ∧ wf x ∧ bk x ≤ Rows.uptoBulk d := by
 obtain ⟨fuel, hf⟩ := hv
 refine h enc w fuel _ d ps hf ?_
 rw [List.all_eq_true]
 intro n hn
 exact List.all_eq_true.1 hsz n (DataW.weights_mem_each ht hd n hn)
theorem Opens.slice_arg {α : Type} {P : Program} {t q : TypeId} {K : Kd α} {wf : List α → Prop} {bk : List α → Nat} (h : Opens P t (Kd.slice q K) wf bk) {H : Type} {enc : TypeId × Value → H} {w : World} {A : Option Addr} {l c : Nat} {d : DataW H} {ps : List MemPlace} {ts : List TypeId} {ds : List (DataW H)} {j : Nat}
 (hsz : (DataW.weightsEach P ts ds).all (· ≤ reachBytes) = true) (ht : ts[j]? = some t) (hd : ds[j]? = some d) (hv : DataW.Trod enc P w 0 (fun _ => true) true t (.slice A l c) d ps) : ∃ xs, xs.length = l ∧ l ≤ c ∧ K.C w A xs.length xs ∧ wf xs ∧ bk xs ≤ Rows.uptoBulk d := by
 obtain ⟨x, k1, k2, k3⟩ := h.arg hsz ht hd hv
 obtain ⟨A', c', e, hc, hr⟩ := k1
 simp [Value.cells] at e
 obtain ⟨rfl, rfl, rfl⟩ := e
 exact ⟨x, rfl, hc, hr, k2, k3⟩
end Go.Proofs.Ytmbnjgnmblgjoaa.Open
end
section
namespace Go.Proofs.Ytmbnjgnmblgjoaa.Open
open Go.RowKit Go.ChangeShapes Go.WideShapes Go.Proofs.YtmbnjgnmblgjoaaW.PrintWords
theorem opens_u8 : Opens Try.prog 5 (Kd.int .u8) (fun n => (Lit.int .u8 n).wf = true) (fun _ => 1) := opens_int Try.underlying5
theorem opens_bytes : Opens Try.prog 27 (Kd.slice 5 (Kd.int .u8)) (fun xs => xs.length * 1 ≤ 140737488351232 ∧ ∀ x ∈ xs, (Lit.int .u8 x).wf = true) (fun xs => sum1 (fun _ => 1) xs + 1) :=
 opens_slice Try.underlying27 (by kernel_rfl) (by kernel_rfl) opens_u8 _
theorem opens_ints : Opens Try.prog 42 (Kd.slice 3 (Kd.int .i64)) (fun xs => xs.length * 8 ≤ 140737488351232 ∧ ∀ x ∈ xs, (Lit.int .i64 x).wf = true) (fun xs => sum1 (fun _ => 1) xs + 1) :=
 opens_slice Try.underlying42 (by kernel_rfl) (by kernel_rfl) (opens_int Try.underlying3) _
theorem sum1_const {α : Type} : ∀ xs : List α, sum1 (fun _ => 1) xs = xs.length
 | [] => rfl
 | x :: l => by rw [sum1, sum1_const l, List.length_cons, Nat.add_comm]
theorem wf_u8 {x : Int} (h : (Lit.int .u8 x).wf = true) : 0 ≤ x ∧ x ≤ 255 := by simpa [Lit.wf, IntKind.min, IntKind.max, IntKind.bits, IntKind.signed] using h
theorem wf_i64 {x : Int} (h : (Lit.int .i64 x).wf = true) : -9223372036854775808 ≤ x ∧ x ≤ 9223372036854775807 := by simpa [Lit.wf, IntKind.min, IntKind.max, IntKind.bits, IntKind.signed] using h
theorem getD_all {α : Type} {P : α → Prop} {d : α} {xs : List α} (h : ∀ x ∈ xs, P x) (hd : P d) (i : Nat) : P (xs.getD i d) := by
 rw [List.getD_eq_getElem?_getD]
 cases hx : xs[i]? with
 | none => exact hd
 | some x => exact h x (List.mem_of_getElem? hx)
end Go.Proofs.Ytmbnjgnmblgjoaa.Open
end
section
namespace Go.Proofs.Ytmbnjgnmblgjoaa.Man
open Go.RowKit
set_option linter.unusedVariables false
set_option linter.unusedSimpArgs false
def SeqAll {α : Type} (F : Fence) (n : Nat) (P : Program) (g : Nat) (lb : Array Value) (encs : α → Array Value) (Mv : World → World → Prop) (Kp : World → World → Prop) (S : List α → Prop) (N : List α → Prop) (w : World) : Prop :=
 ∀ (l : Nat) (J : List α → World → Prop) (W : World), Below w.heap.size w W → (∀ s A B, J s A → Mv A B → J s B) →
  (∀ pre x W1, J pre W1 → N (pre ++ [x]) → YieldAt F (n - 1) P l (encs x) W1 fun e W' => e = .returned (.bool true) ∧ J (pre ++ [x]) W' ∧ Kp W1 W') →
  J [] W →
  CallsIn F n P g (#[.func (.yield l) #[] #[]] ++ lb) W fun e W' => (∃ v, e = .returned v) ∧ ∃ xs, S xs ∧ J xs W'
variable {F : Fence} {n : Nat} {P : Program}
def goesOn {α : Type} (B : Nat) (Kp : World → World → Prop) (I : List α → World → Prop) (xs : List α) (W : World) : Exit → Act → World → Prop
 | .normal, _, W' => KeepsFrom B W W' ∧ Kp W W' ∧ I xs W'
 | _, _, _ => False
theorem wpIn_rangeAll {α : Type} {g : Operand} {ps : Array Tmp} {assign body : Code} {Q : Exit → Act → World → Prop} {a : Act} {w : World}
 (hro : F.round = none) (h1 : 1 ≤ n) {gf : Nat} {lb : Array Value} (hg : a.eval g = .func (.func gf) #[] lb) (hFg : F.fn gf) (eg : ∀ args w, (callFunc gf args).run P w = .ok (.enter gf args) w)
 {encs : α → Array Value} {Mv Kp : World → World → Prop} {S : List α → Prop} {N : List α → Prop} (hseq : SeqAll F (n - 1) P gf lb encs Mv Kp S N w)
 (hMv : ∀ (A B : World) (k : Nat) (o : Obj), Mv A B → w.heap.size ≤ k → A.heap[k]? = some o → B.heap[k]? = some o)
 (hKt : ∀ {A B C : World}, Kp A B → Kp B C → Kp A C) (hKb : ∀ (W : World) (l : Nat) (o o' : Obj), w.heap.size ≤ l → W.heap[l]? = some o → o.isCells = false → Kp W (W.putObj l o')) (hps : ∀ x, (encs x).size = ps.size)
 (I : List α → World → Prop) (hI : OwnFrom w.heap.size I) (hIr : ∀ s A B, I s A → Mv A B → I s B) (h0 : I [] w) (a₁ : α → Act)
 (hassign : ∀ (l : Nat) (x : α) (W : World) (K : Act → World → Prop), K (a₁ x) W →
  assign.wpIn (F.inRound l) (n - 1 - 1) P (Exit.then K (fun _ _ _ => False)) { tmps := (ps.zip (encs x)).foldl (fun t (p, v) => t.setIfInBounds p v) a.tmps, defers := [] } W)
 (hbody : ∀ (l : Nat) (pre : List α) (x : α) (W : World), I pre W → N (pre ++ [x]) → body.wpIn (F.inRound l) (n - 1 - 1) P (goesOn w.heap.size Kp I (pre ++ [x]) W) (a₁ x) W)
 (hdone : ∀ (D : Nat) (xs : List α) (W : World), w.heap.size ≤ D → S xs → I xs W → W.heap[D]? = some (.deferred (some [])) → Q .normal { a with defers := { target := .collected D, args := #[] } :: a.defers } W) :
 (Code.rangeFunc g ps assign body).wpIn F n P Q a w := by
 refine wpIn_rangeFunc ?_
 intro fn hfn
 rw [hro]
 obtain ⟨rec, hrec⟩ : ∃ rec : LoopState → Option Code → Loop, rec = fun st pe => { state := st, pending := pe, fn, tmps := a.tmps, params := ps, assign, body, defers := w.heap.size } := ⟨_, rfl⟩
 obtain ⟨W1, hW1⟩ : ∃ W1, (w.alloc (.deferred (some []))).alloc (.loop (rec .ready none)) = W1 := ⟨_, rfl⟩
 have hL1 : W1.heap[w.heap.size + 1]? = some (.loop (rec .ready none)) := by
  rw [← hW1]; have := World.alloc_heap_new (w.alloc (.deferred (some []))) (.loop (rec .ready none)); rwa [World.size_alloc] at this
 have hK1 : W1.heap[w.heap.size]? = some (.deferred (some [])) := by
  rw [← hW1]; exact (Below.heap_alloc _ _ _ (by simp)).trans (World.alloc_heap_new w _)
 have hI1 : I [] W1 := by rw [← hW1]; exact hI.alloc _ (hI.alloc _ h0)
 have hb1 : Below w.heap.size w W1 := by
  rw [← hW1]; exact ((Below.refl _ w).alloc (Nat.le_refl _) _).alloc (by simp) _
 refine ⟨w.heap.size + 1, [{ target := .collected w.heap.size, args := #[] }], W1, { target := .fn (.func gf) lb, args := #[.func (.yield (w.heap.size + 1)) #[] #[]] }, W1, gf,
  #[.func (.yield (w.heap.size + 1)) #[] #[]] ++ lb, W1, ?_, ?_, ?_, ?_, fun _ => h1, ?_⟩
 · rw [← hW1, hrec]; exact run_enterLoop_outer _ _ _ _ _
 · simp only [resolve, hg]
   simp [go_sem]
 · intro f' hf'; simp [Target.leads] at hf'; subst hf'; exact hFg
 · simp [invoke, go_sem, eg]
 · refine (hseq (w.heap.size + 1)
    (fun pre W => I pre W ∧ W.heap[w.heap.size + 1]? = some (.loop (rec .ready none)) ∧ W.heap[w.heap.size]? = some (.deferred (some [])))
    W1 hb1
    (fun s A B hs hg' => ⟨hIr s A B hs.1 hg', hMv _ _ _ _ hg' (by omega) hs.2.1, hMv _ _ _ _ hg' (Nat.le_refl _) hs.2.2⟩)
    ?_ ⟨hI1, hL1, hK1⟩).mono ?_
   · rintro pre x W ⟨hi, hl, hk⟩ hlen
     have hlt : w.heap.size + 1 < W.heap.size := (Array.getElem?_eq_some_iff.1 hl).1
     have hy := run_yield (P := P) (args := encs x) hl (by rw [hrec]; exact hps x)
     rw [hrec] at hy
     refine ⟨fn, _, assign, body, hy, roundIn_of_wpIn hfn (hassign _ x W _ ⟨_, run_beginRound hl (by rw [hrec]), ?_⟩)⟩
     have hl2 : (W.putObj (w.heap.size + 1) (.loop { rec .ready none with state := .busy })).heap[w.heap.size + 1]? = some (.loop { rec .ready none with state := .busy }) := World.putObj_heap_same hlt
     have hk2 : (W.putObj (w.heap.size + 1) (.loop { rec .ready none with state := .busy })).heap[w.heap.size]? = some (.deferred (some [])) := (World.putObj_heap_other (by omega)).trans hk
     have hw2 : Kp W (W.putObj (w.heap.size + 1) (.loop { rec .ready none with state := .busy })) := hKb _ _ _ _ (by omega) hl rfl
     refine wpIn_mono (hbody _ pre x _ (hI.putObj _ hi (by omega) hl rfl) hlen) ?_
     rintro e a3 W3 hp
     cases e with
     | normal =>
      obtain ⟨hk3, hkp3, hi3⟩ := hp
      have hl3 := hk3.same _ _ (by omega) hl2 rfl
      have hr := run_endRound (P := P) none hl3
      rw [hrec] at hl3 hr ⊢
      exact ⟨_, _, hr, rfl, ⟨hI.putObj _ hi3 (by omega) hl3 rfl, World.putObj_heap_same (Array.getElem?_eq_some_iff.1 hl3).1, (World.putObj_heap_other (by omega)).trans (hk3.same _ _ (Nat.le_refl _) hk2 rfl)⟩,
       hKt (hKt (by rw [hrec] at hw2; exact hw2) (by rw [hrec] at hkp3; exact hkp3)) (hKb _ _ _ _ (by omega) hl3 rfl)⟩
     | ret => exact hp.elim
     | exit id => exact hp.elim
     | goto t => exact hp.elim
     | panic ch => exact hp.elim
     | outgrown => exact hp.elim
   · rintro e W2 ⟨⟨v, rfl⟩, ⟨xs, hS, hi, hl, hk⟩⟩
     exact ⟨none, _, by have := run_endLoop (P := P) hl (by rw [hrec]; simp); rw [hrec] at this; exact this, hdone _ xs _ (Nat.le_refl _) hS (hI.putObj _ hi (by omega) hl rfl) ((World.putObj_heap_other (by omega)).trans hk)⟩
end Go.Proofs.Ytmbnjgnmblgjoaa.Man
end
section
namespace Go.Proofs.YtmbnjgnmblgjoaaW.PrintLast
section
variable {P : Program} {ops : Array Oper} {Q : Exit → Act → World → Prop} {md : Region.Mode} {S : World → Prop} {ds : List Nat}
def Region.reachB (md : Region.Mode) (ops : Array Oper) (i : Nat) : Nat → Nat → Bool
 | 0, _ => false
 | fuel + 1, d => match ops[d]? with
  | some o => o.after.any fun e => Region.binds md e && (e.on == i || Region.reachB md ops i fuel e.on)
  | none => false
def Region.closedB (md : Region.Mode) (ops : Array Oper) (listed : Array Bool) : Bool :=
 (List.range ops.size).all fun j => !listed.getD j false || match ops[j]? with
  | some o => o.after.all fun e => !Region.binds md e || listed.getD e.on false
  | none => true
def Region.lastB (md : Region.Mode) (ops : Array Oper) (listed : Array Bool) (ds : List Nat) (i : Nat) : Bool :=
 ds.all fun d => listed.getD d true || Region.reachB md ops i ops.size d
def ListedClosed (md : Region.Mode) (ops : Array Oper) (listed : Array Bool) : Prop :=
 ∀ j oj, ops[j]? = some oj → listed.getD j false = true → ∀ e ∈ oj.after, Region.binds md e = true → listed.getD e.on false = true
theorem Region.closedB_spec {listed : Array Bool} (h : Region.closedB md ops listed = true) : ListedClosed md ops listed := by
 intro j oj hj hl e he hb
 have hlt : j < ops.size := (Array.getElem?_eq_some_iff.1 hj).1
 have h1 := List.all_eq_true.1 h j (List.mem_range.2 hlt)
 simp only [hl, hj, Bool.not_true, Bool.false_or] at h1
 have h2 := Array.all_eq_true_iff_forall_mem.1 h1 e he
 simpa [hb] using h2
theorem ListedClosed.set {listed : Array Bool} {i : Nat} (h : ListedClosed md ops listed) (hi : i ∈ Region.ready md ops listed) : ListedClosed md ops (listed.setIfInBounds i true) := by
 obtain ⟨_, oi, hoi, hall⟩ := mem_ready.1 hi
 intro j oj hj hl e he hb
 by_cases hij : i = j
 · subst hij
   have : oj = oi := Option.some.inj (hj.symm.trans hoi)
   subst this
   exact getD_set_true (hall e he hb)
 · rw [getD_set_ne false hij] at hl
   exact getD_set_true (h j oj hj hl e he hb)
theorem Region.reach_listed {listed : Array Bool} {i : Nat} (hc : ListedClosed md ops listed) : ∀ (fuel d : Nat), Region.reachB md ops i fuel d = true → listed.getD d false = true → listed.getD i false = true
 | 0, _, h, _ => by simp [Region.reachB] at h
 | fuel + 1, d, h, hl => by
  unfold Region.reachB at h
  cases ho : ops[d]? with
  | none => rw [ho] at h; simp at h
  | some o =>
   rw [ho] at h
   obtain ⟨e, he, h1⟩ := Array.any_eq_true'.1 h
   simp only [Bool.and_eq_true, Bool.or_eq_true, beq_iff_eq] at h1
   have hle := hc d o ho hl e he h1.1
   rcases h1.2 with h2 | h2
   · rw [← h2]; exact hle
   · exact Region.reach_listed hc fuel e.on h2 hle
theorem Region.reach_not_ready {listed : Array Bool} {i d fuel : Nat} (hc : ListedClosed md ops listed) (hr : Region.reachB md ops i fuel d = true) (hun : listed.getD i true = false) : d ∉ Region.ready md ops listed := by
 intro hd
 obtain ⟨_, o, ho, hall⟩ := mem_ready.1 hd
 have hi : listed.getD i false = true := by
  cases fuel with
  | zero => simp [Region.reachB] at hr
  | succ n =>
   unfold Region.reachB at hr
   rw [ho] at hr
   obtain ⟨e, he, h1⟩ := Array.any_eq_true'.1 hr
   simp only [Bool.and_eq_true, Bool.or_eq_true, beq_iff_eq] at h1
   have hle := hall e he h1.1
   rcases h1.2 with h2 | h2
   · rw [← h2]; exact hle
   · exact Region.reach_listed hc n e.on h2 hle
 rcases Nat.lt_or_ge i listed.size with h' | h'
 · simp [h'] at hun hi
   rw [hun] at hi
   cases hi
 · simp [Array.getElem?_eq_none h'] at hun
def wpAnyLast (P : Program) (md : Region.Mode) (ops : Array Oper) (Q : Exit → Act → World → Prop) (S : World → Prop) (ds : List Nat) : Nat → Array Bool → Act → World → Prop
 | 0, listed, a, w => Region.ready md ops listed = [] ∧ Q .normal a w
 | fuel + 1, listed, a, w =>
  (Region.ready md ops listed = [] → Q .normal a w) ∧
  ∀ i ∈ Region.ready md ops listed, wpOp P ops Q i (fun a' w' => (i ∉ ds → S w → S w') ∧ wpAnyLast P md ops Q S ds fuel (listed.setIfInBounds i true) a' w') a w
theorem wpAny_of_last : ∀ (fuel : Nat) (listed : Array Bool) (a : Act) (w : World), wpAnyLast P md ops Q S ds fuel listed a w → wpAny P md ops Q fuel listed a w
 | 0, _, _, _, h => h
 | fuel + 1, _, _, _, h => ⟨h.1, fun i hi => wpOp_mono (fun a' w' h' => wpAny_of_last fuel _ a' w' h'.2) (h.2 i hi)⟩
theorem wpAnyLast_first {i : Nat} {oi : Oper} {v : Value} (hi : ops[i]? = some oi) (hsel : ∀ (j : Nat) (o : Oper) cs b, ops[j]? = some o → o.op ≠ .select cs b)
 (hQ : ∀ c a w, Q (.panic c) (a.put oi.dst v) w → Q (.panic c) a w) (n : Nat) :
 ∀ (fuel : Nat) (listed : Array Bool) (a : Act) (w : World),
  (∀ j oj, ops[j]? = some oj → j ≠ i → listed.getD j true = false → (∀ e ∈ oj.after, Region.binds md e = true → e.on ≠ i) → oi.apart ops oj = true) →
  ListedClosed md ops listed → (∀ d ∈ ds, listed.getD d true = false → Region.reachB md ops i n d = true) →
  i ∈ Region.ready md ops listed → YieldsIf P ops S oi v a → S w →
  wpAnyLast P md ops Q S ds fuel (listed.setIfInBounds i true) (a.put oi.dst v) w → wpAnyLast P md ops Q S ds (fuel + 1) listed a w := by
 intro fuel
 induction fuel with
 | zero =>
  intro listed a w _ _ _ hr hy hS H
  refine ⟨fun h => (by rw [h] at hr; cases hr), fun j hj => ?_⟩
  by_cases hji : j = i
  · subst hji; exact hy.wpOp hi hS ⟨fun _ h => h, H⟩
  · have := ready_mono hj hji
    rw [H.1] at this
    cases this
 | succ fuel ih =>
  intro listed a w hfree hc hd hr hy hS H
  refine ⟨fun h => (by rw [h] at hr; cases hr), fun j hj => ?_⟩
  by_cases hji : j = i
  · subst hji; exact hy.wpOp hi hS ⟨fun _ h => h, H⟩
  · have h1 := H.2 j (ready_mono hj hji)
    obtain ⟨hjun, oj, hoj, hall⟩ := mem_ready.1 hj
    have hiun := (mem_ready.1 hr).1
    have hnot : ∀ e ∈ oj.after, Region.binds md e = true → e.on ≠ i := fun e he hb heq => by
     have h1 := hall e he hb
     rw [heq] at h1
     rcases Nat.lt_or_ge i listed.size with h' | h'
     · simp [h'] at hiun h1; rw [hiun] at h1; cases h1
     · simp [Array.getElem?_eq_none h'] at h1
    have hjd : j ∉ ds := fun hm => Region.reach_not_ready hc (hd j hm hjun) hiun hj
    have h2 := wpOp_putIf hoj (hfree j oj hoj hji hjun hnot) (fun cs b => hsel i oi cs b hi) (fun cs b => hsel j oj cs b hoj) hQ hy h1
    have hfree' : ∀ k ok, ops[k]? = some ok → k ≠ i → (listed.setIfInBounds j true).getD k true = false →
     (∀ e ∈ ok.after, Region.binds md e = true → e.on ≠ i) → oi.apart ops ok = true := fun k ok hk hki hun hno => by
     refine hfree k ok hk hki ?_ hno
     by_cases hjk : j = k
     · subst hjk; exact hjun
     · rw [getD_set_ne true hjk] at hun; exact hun
    have hd' : ∀ d ∈ ds, (listed.setIfInBounds j true).getD d true = false → Region.reachB md ops i n d = true := fun d hm hun => by
     refine hd d hm ?_
     by_cases hjk : j = d
     · subst hjk; exact hjun
     · rw [getD_set_ne true hjk] at hun; exact hun
    refine wpOp_mono (fun a' w' h3 => ⟨h3.2.1, ih (listed.setIfInBounds j true) a' w' hfree' (hc.set hj) hd' (ready_mono hr (Ne.symm hji)) h3.1 (h3.2.1 hjd hS) ?_⟩) h2
    rw [Array.setIfInBounds_comm _ _ hji]
    exact h3.2.2
theorem wpAnyLast_any {i : Nat} {oi : Oper} {v : Value} (hi : ops[i]? = some oi) (hsel : ∀ (j : Nat) (o : Oper) cs b, ops[j]? = some o → o.op ≠ .select cs b)
 (hQ : ∀ c a w, Q (.panic c) (a.put oi.dst v) w → Q (.panic c) a w) :
 ∀ (fuel : Nat) (listed : Array Bool) (a : Act) (w : World),
  (∀ j oj, ops[j]? = some oj → j ≠ i → listed.getD j true = false → (∀ e ∈ oj.after, Region.binds md e = true → e.on ≠ i) → oi.apart ops oj = true) →
  i ∈ Region.ready md ops listed → Yields P ops oi v a →
  wpAnyLast P md ops Q S ds fuel (listed.setIfInBounds i true) (a.put oi.dst v) w → wpAnyLast P md ops Q S ds (fuel + 1) listed a w := by
 intro fuel
 induction fuel with
 | zero =>
  intro listed a w _ hr hy H
  refine ⟨fun h => (by rw [h] at hr; cases hr), fun j hj => ?_⟩
  by_cases hji : j = i
  · subst hji; exact (hy.yieldsIf (S := fun _ => True)).wpOp hi trivial ⟨fun _ h => h, H⟩
  · have := ready_mono hj hji
    rw [H.1] at this
    cases this
 | succ fuel ih =>
  intro listed a w hfree hr hy H
  refine ⟨fun h => (by rw [h] at hr; cases hr), fun j hj => ?_⟩
  by_cases hji : j = i
  · subst hji; exact (hy.yieldsIf (S := fun _ => True)).wpOp hi trivial ⟨fun _ h => h, H⟩
  · have h1 := H.2 j (ready_mono hj hji)
    obtain ⟨hjun, oj, hoj, hall⟩ := mem_ready.1 hj
    have hiun := (mem_ready.1 hr).1
    have hnot : ∀ e ∈ oj.after, Region.binds md e = true → e.on ≠ i := fun e he hb heq => by
     have h1 := hall e he hb
     rw [heq] at h1
     rcases Nat.lt_or_ge i listed.size with h' | h'
     · simp [h'] at hiun h1; rw [hiun] at h1; cases h1
     · simp [Array.getElem?_eq_none h'] at h1
    have h2 := wpOp_put hoj (hfree j oj hoj hji hjun hnot) (fun cs b => hsel i oi cs b hi) (fun cs b => hsel j oj cs b hoj) hQ hy h1
    have hfree' : ∀ k ok, ops[k]? = some ok → k ≠ i → (listed.setIfInBounds j true).getD k true = false →
     (∀ e ∈ ok.after, Region.binds md e = true → e.on ≠ i) → oi.apart ops ok = true := fun k ok hk hki hun hno => by
     refine hfree k ok hk hki ?_ hno
     by_cases hjk : j = k
     · subst hjk; exact hjun
     · rw [getD_set_ne true hjk] at hun; exact hun
    refine wpOp_mono (fun a' w' h3 => ⟨h3.2.1, ih (listed.setIfInBounds j true) a' w' hfree' (ready_mono hr (Ne.symm hji)) h3.1 ?_⟩) h2
    rw [Array.setIfInBounds_comm _ _ hji]
    exact h3.2.2
theorem wpAnyLast_take {i : Nat} {oi : Oper} {v : Value} {fuel : Nat} {listed : Array Bool} {a : Act} {w : World} (hi : ops[i]? = some oi)
 (hs : Region.noSelect ops = true) (hf : Region.free md ops listed i = true) (hr : (Region.ready md ops listed).contains i = true)
 (hc : Region.closedB md ops listed = true) (hl : Region.lastB md ops listed ds i = true)
 (hQ : ∀ c a w, Q (.panic c) (a.put oi.dst v) w → Q (.panic c) a w) (hy : YieldsIf P ops S oi v a) (hS : S w)
 (h : wpAnyLast P md ops Q S ds fuel (listed.setIfInBounds i true) (a.put oi.dst v) w) : wpAnyLast P md ops Q S ds (fuel + 1) listed a w :=
 wpAnyLast_first hi (Region.noSelect_spec hs) hQ ops.size fuel listed a w (Region.free_spec hi hf) (Region.closedB_spec hc)
  (fun d hm hun => by have := List.all_eq_true.1 hl d hm; rw [hun] at this; simpa using this) (by simpa using hr) hy hS h
theorem wpAnyLast_all {rs : List Nat} {fuel : Nat} {listed : Array Bool} {a : Act} {w : World} (hr : Region.ready md ops listed = rs) (hne : rs ≠ [])
 (h : ∀ i ∈ rs, wpOp P ops Q i (fun a' w' => (i ∉ ds → S w → S w') ∧ wpAnyLast P md ops Q S ds fuel (listed.setIfInBounds i true) a' w') a w) : wpAnyLast P md ops Q S ds (fuel + 1) listed a w :=
 ⟨fun h0 => absurd (hr ▸ h0) hne, hr ▸ h⟩
theorem wpAnyLast_done {listed : Array Bool} {a : Act} {w : World} (hr : Region.ready md ops listed = []) (h : Q .normal a w) :
 ∀ fuel, wpAnyLast P md ops Q S ds fuel listed a w
 | 0 => ⟨hr, h⟩
 | _ + 1 => ⟨fun _ => h, by rw [hr]; simp⟩
theorem wp_region_last {id : Nat} {a : Act} {w : World} (hm : P.follows .mixedOrders = true)
 (h : wpAnyLast P .any ops Q S ds ops.size (Array.replicate ops.size false) a { w with drawn := w.drawn + 1 }) : (Code.region id ops true).wp P Q a w :=
 wp_region_any hm (wpAny_of_last _ _ _ _ h)
end
section
variable {P : Program} {ops : Array Oper} {Q : Exit → Act → World → Prop} {md : Region.Mode} {S : World → Prop} {ds : List Nat}
def AllReadyL (P : Program) (md : Region.Mode) (ops : Array Oper) (Q : Exit → Act → World → Prop) (S : World → Prop) (ds : List Nat) (fuel : Nat) (listed : Array Bool) (a : Act) (w : World) (rs : List Nat) : Prop :=
 ∀ i ∈ rs, wpOp P ops Q i (fun a' w' => (i ∉ ds → S w → S w') ∧ wpAnyLast P md ops Q S ds fuel (listed.setIfInBounds i true) a' w') a w
theorem AllReadyL.nil {fuel : Nat} {listed : Array Bool} {a : Act} {w : World} : AllReadyL P md ops Q S ds fuel listed a w [] := fun _ h => by cases h
theorem AllReadyL.cons {fuel : Nat} {listed : Array Bool} {a : Act} {w : World} {i : Nat} {o : Oper} {rs : List Nat} (ho : ops[i]? = some o) (hd : i ∉ ds)
 (h : ∀ K' : Act → World → Prop, Shut (∀ a w, S w → (S w → wpAnyLast P md ops Q S ds fuel (listed.setIfInBounds i true) a w) → K' a w) → if Region.wanted o (yielded ops a.tmps) = true then Oper.wp P o a w K' Q else K' (a.put o.dst undef) w)
 (hs : AllReadyL P md ops Q S ds fuel listed a w rs) : AllReadyL P md ops Q S ds fuel listed a w (i :: rs) := fun j hj => by
 rcases List.mem_cons.1 hj with rfl | hj
 · exact wpOp_step ho (fun K' hK => h K' (fun a w hS hW => hK a w ⟨fun _ _ => hS, hW hS⟩))
 · exact hs j hj
theorem AllReadyL.cons_last {fuel : Nat} {listed : Array Bool} {a : Act} {w : World} {i : Nat} {o : Oper} {rs : List Nat} (ho : ops[i]? = some o) (hd : i ∈ ds)
 (h : ∀ K' : Act → World → Prop, Shut (∀ a w, wpAnyLast P md ops Q S ds fuel (listed.setIfInBounds i true) a w → K' a w) → if Region.wanted o (yielded ops a.tmps) = true then Oper.wp P o a w K' Q else K' (a.put o.dst undef) w)
 (hs : AllReadyL P md ops Q S ds fuel listed a w rs) : AllReadyL P md ops Q S ds fuel listed a w (i :: rs) := fun j hj => by
 rcases List.mem_cons.1 hj with rfl | hj
 · exact wpOp_step ho (fun K' hK => h K' (fun a w hW => hK a w ⟨fun hn => absurd hd hn, hW⟩))
 · exact hs j hj
theorem wpAnyLast_ready {rs : List Nat} {fuel : Nat} {listed : Array Bool} {a : Act} {w : World} (hr : Region.ready md ops listed = rs) (hne : rs ≠ [])
 (h : AllReadyL P md ops Q S ds fuel listed a w rs) : wpAnyLast P md ops Q S ds (fuel + 1) listed a w := wpAnyLast_all hr hne h
theorem start_ {id n : Nat} {a : Act} {w : World} (l : Array Bool) (hm : P.follows .mixedOrders = true) (hn : ops.size = n) (hl : Array.replicate n false = l) (hS : S w.drew)
 (h : S w.drew → wpAnyLast P .any ops Q S ds n l a w.drew) : (Code.region id ops true).wp P Q a w := by
 subst hn
 subst hl
 exact wp_region_last hm (h hS)
def takeB (md : Region.Mode) (ops : Array Oper) (ds : List Nat) (l l' : Array Bool) (i : Nat) : Bool :=
 Region.noSelect ops && Region.free md ops l i && (Region.ready md ops l).contains i && Region.closedB md ops l && Region.lastB md ops l ds i && (l.setIfInBounds i true == l')
theorem take_ {i : Nat} {N : Option Tmp} {oi : Oper} {v : Value} {fuel : Nat} {l : Array Bool} {a : Act} {w : World} (l' : Array Bool) (hi : ops[i]? = some oi) (hN : oi.dst = N) (hc : takeB md ops ds l l' i = true)
 (hQ : ∀ c a w, Q (.panic c) (a.put oi.dst v) w → Q (.panic c) a w) (hy : YieldsIf P ops S oi v a) (hS : S w) {a' : Act} (ha : a.put N v = a')
 (h : wpAnyLast P md ops Q S ds fuel l' a' w) : wpAnyLast P md ops Q S ds (fuel + 1) l a w := by
 subst ha
 subst hN
 simp only [takeB, Bool.and_eq_true, beq_iff_eq] at hc
 obtain ⟨⟨⟨⟨⟨h1, h2⟩, h3⟩, h4⟩, h5⟩, h6⟩ := hc
 subst h6
 exact wpAnyLast_take hi h1 h2 h3 h4 h5 hQ hy hS h
def anyB (md : Region.Mode) (ops : Array Oper) (l l' : Array Bool) (i : Nat) : Bool :=
 Region.noSelect ops && Region.free md ops l i && (Region.ready md ops l).contains i && (l.setIfInBounds i true == l')
theorem pure_ {i : Nat} {N : Option Tmp} {oi : Oper} {v : Value} {fuel : Nat} {l : Array Bool} {a : Act} {w : World} (l' : Array Bool) (hi : ops[i]? = some oi) (hN : oi.dst = N) (hc : anyB md ops l l' i = true)
 (hQ : ∀ c a w, Q (.panic c) (a.put oi.dst v) w → Q (.panic c) a w) (hy : Yields P ops oi v a) {a' : Act} (ha : a.put N v = a')
 (h : wpAnyLast P md ops Q S ds fuel l' a' w) : wpAnyLast P md ops Q S ds (fuel + 1) l a w := by
 subst ha
 subst hN
 simp only [anyB, Bool.and_eq_true, beq_iff_eq] at hc
 obtain ⟨⟨⟨h1, h2⟩, h3⟩, h6⟩ := hc
 subst h6
 exact wpAnyLast_any hi (Region.noSelect_spec h1) hQ fuel l a w (Region.free_spec hi h2) (by simpa using h3) hy h
def readyB (md : Region.Mode) (ops : Array Oper) (l l' : Array Bool) (i : Nat) : Bool := (Region.ready md ops l == [i]) && (l.setIfInBounds i true == l')
theorem one_ {i : Nat} {N : Option Tmp} {oi : Oper} {fuel : Nat} {l : Array Bool} {a : Act} {w : World} (l' : Array Bool) (hi : ops[i]? = some oi) (hN : oi.dst = N) (hc : readyB md ops l l' i = true) (hd : i ∉ ds)
 (h : ∀ K : Act → World → Prop, Shut (∀ a' w', S w' → (S w' → wpAnyLast P md ops Q S ds fuel l' a' w') → K a' w') → if Region.wanted oi (yielded ops a.tmps) = true then Oper.wp P oi a w K Q else K (a.put N undef) w) :
 wpAnyLast P md ops Q S ds (fuel + 1) l a w := by
 subst hN
 simp only [readyB, Bool.and_eq_true, beq_iff_eq] at hc
 obtain ⟨h1, h2⟩ := hc
 subst h2
 exact wpAnyLast_ready h1 (by simp) (AllReadyL.cons hi hd (fun K hK => h K hK) AllReadyL.nil)
theorem last_ {i : Nat} {N : Option Tmp} {oi : Oper} {fuel : Nat} {l : Array Bool} {a : Act} {w : World} (l' : Array Bool) (hi : ops[i]? = some oi) (hN : oi.dst = N) (hc : readyB md ops l l' i = true) (hd : i ∈ ds)
 (h : ∀ K : Act → World → Prop, Shut (∀ a' w', wpAnyLast P md ops Q S ds fuel l' a' w' → K a' w') → if Region.wanted oi (yielded ops a.tmps) = true then Oper.wp P oi a w K Q else K (a.put N undef) w) :
 wpAnyLast P md ops Q S ds (fuel + 1) l a w := by
 subst hN
 simp only [readyB, Bool.and_eq_true, beq_iff_eq] at hc
 obtain ⟨h1, h2⟩ := hc
 subst h2
 exact wpAnyLast_ready h1 (by simp) (AllReadyL.cons_last hi hd (fun K hK => h K hK) AllReadyL.nil)
theorem done_ {l : Array Bool} {a : Act} {w : World} {n : Nat} (hr : (Region.ready md ops l == []) = true) (h : Q .normal a w) : wpAnyLast P md ops Q S ds n l a w := wpAnyLast_done (by simpa using hr) h n
def putAll : Act → List (Tmp × Value) → Act
 | a, [] => a
 | a, (n, v) :: r => putAll (a.put (some n) v) r
theorem norm_ {fuel : Nat} {l : Array Bool} {a a' : Act} {w : World} (ha : a = a') (h : wpAnyLast P md ops Q S ds fuel l a' w) : wpAnyLast P md ops Q S ds fuel l a w := by
 subst ha
 exact h
theorem call_ {oi : Oper} {N : Option Tmp} {a : Act} {w : World} {K : Act → World → Prop} (f : FuncId) (args : Array Value) (hw : Region.wanted oi (yielded ops a.tmps) = true) (hN : oi.dst = N) (hrun : (execOp a.eval oi).run P w = .ok (.enter f args) w)
 (h : Calls P f args w fun e w' => ∃ v, e = .returned v ∧ K (a.put N v) w') : if Region.wanted oi (yielded ops a.tmps) = true then Oper.wp P oi a w K Q else K (a.put N undef) w := by
 rw [if_pos hw]
 subst hN
 unfold Oper.wp
 rw [hrun, Oper.upon_enter]
 refine h.mono fun e w'' hh => ?_
 obtain ⟨v, rfl, hk⟩ := hh
 exact hk
theorem enters_ {f : FuncId} {fn : Func} (hf : P.funcs[f]? = some fn) (hname : (fn.name == "runtime.NumGoroutine") = false) (hb : fn.body.isSome = true) (args : Array Value) (w : World) : (callFunc f args).run P w = .ok (.enter f args) w := by
 have h1 : fn.name ≠ "runtime.NumGoroutine" := by simpa using hname
 obtain ⟨c, hc⟩ := Option.isSome_iff_exists.1 hb
 simp [callFunc, hf, h1, hc]
theorem goes_ {oi : Oper} {N : Option Tmp} {a : Act} {w : World} {K : Act → World → Prop} {f : FuncId} {fn : Func} {as_ : Array Operand} {ts : Array TypeId} (hf : P.funcs[f]? = some fn) (hname : (fn.name == "runtime.NumGoroutine") = false) (hb : fn.body.isSome = true) (args : Array Value)
 (hw : Region.wanted oi (yielded ops a.tmps) = true) (hN : oi.dst = N) (hop : oi.op = .call { callee := .value (.func f), args := as_, argTypes := ts }) (hargs : as_.map a.eval = args)
 (h : Calls P f args w fun e w' => ∃ v, e = .returned v ∧ K (a.put N v) w') : if Region.wanted oi (yielded ops a.tmps) = true then Oper.wp P oi a w K Q else K (a.put N undef) w := by
 refine call_ f args hw hN ?_ h
 have he := enters_ hf hname hb args w
 unfold execOp
 simp [hop, resolve, Deferred.ofValue, invoke, Act.eval, hargs, he]
theorem goesL_ {rest : List Oper} {oi : Oper} {a : Act} {w : World} (N : Option Tmp) (hd : oi.dst = N) (hg : oi.guard = none) {f : FuncId} {fn : Func} {as_ : Array Operand} {ts : Array TypeId} (hf : P.funcs[f]? = some fn) (hname : (fn.name == "runtime.NumGoroutine") = false) (hb : fn.body.isSome = true) (args : Array Value)
 (hop : oi.op = .call { callee := .value (.func f), args := as_, argTypes := ts }) (hargs : as_.map a.eval = args)
 (h : Calls P f args w fun e w' => ∃ v, e = .returned v ∧ wpList P ops Q rest (a.put N v) w') : wpList P ops Q (oi :: rest) a w := by
 refine wpList_plain hg fun K hK => ?_
 have he := enters_ hf hname hb args w
 have hrun : (execOp a.eval oi).run P w = .ok (.enter f args) w := by
  unfold execOp
  simp [hop, resolve, Deferred.ofValue, invoke, Act.eval, hargs, he]
 unfold Oper.wp
 rw [hrun, Oper.upon_enter]
 refine h.mono fun e w'' hh => ?_
 obtain ⟨v, rfl, hk⟩ := hh
 subst hd
 exact hK _ _ hk
theorem value_ {oi : Oper} {N : Option Tmp} {a : Act} {w w1 : World} {v : Value} {K : Act → World → Prop} (hw : Region.wanted oi (yielded ops a.tmps) = true) (hN : oi.dst = N) (hrun : (execOp a.eval oi).run P w = .ok (.value v) w1)
 (h : K (a.put N v) w1) : if Region.wanted oi (yielded ops a.tmps) = true then Oper.wp P oi a w K Q else K (a.put N undef) w := by
 rw [if_pos hw]
 subst hN
 unfold Oper.wp
 rw [hrun]
 exact h
theorem skip_ {oi : Oper} {a : Act} {w w1 : World} {K : Act → World → Prop} (hw : Region.wanted oi (yielded ops a.tmps) = true) (hN : oi.dst = none) (hrun : (execOp a.eval oi).run P w = .ok .skip w1)
 (h : K a w1) : if Region.wanted oi (yielded ops a.tmps) = true then Oper.wp P oi a w K Q else K (a.put none undef) w := by
 rw [if_pos hw]
 unfold Oper.wp
 rw [hrun]
 show K (a.put oi.dst undef) w1
 rw [hN]
 exact h
theorem i64_w (n : Int) : IntKind.i64.wrap n = Go.RowKit.wrap64 n := by unfold Go.RowKit.wrap64; exact IntKind.wrap_i64 n
theorem i32_w (n : Int) : IntKind.i32.wrap n = Go.RowKit.wrap32 n := by unfold Go.RowKit.wrap32; exact IntKind.wrap_i32 n
end
end Go.Proofs.YtmbnjgnmblgjoaaW.PrintLast
end
section
namespace Go.Proofs.Ytmbnjgnmblgjoaa.Man
open Go.RowKit Go.Proofs.YtmbnjgnmblgjoaaW.PrintWords Go.Proofs.YtmbnjgnmblgjoaaW.PrintLast
set_option linter.unusedVariables false
set_option linter.unusedSimpArgs false
def FW (ro : Option Nat) : Fence := { Fence.wide with round := ro }
theorem callsIn_FW {ro : Option Nat} {n : Nat} {P : Program} {f : FuncId} {args : Array Value} {w : World} {R : Ending → World → Prop} (h : Calls P f args w R) : CallsIn (FW ro) n P f args w R := by
 cases ro with
 | none => exact callsIn_wide.2 h
 | some l => exact CallsIn.inRound l (callsIn_wide.2 h)
theorem rowsIn_FW {ro : Option Nat} {n : Nat} {P : Program} {row : String} {args : Array Value} {w : World} {R : Value → World → Prop} (h : Rows P row args w R) : RowsIn (FW ro) n P row args w R := fun c cs _ => by
 obtain ⟨v, w', hr, hs⟩ := h c cs
 exact ⟨v, w', hr, stepsIn_wide.2 hs⟩
theorem wpIn_of_wp {ro : Option Nat} {n : Nat} {P : Program} {o : Oper} {a : Act} {w : World} {K : Act → World → Prop} {Q : Exit → Act → World → Prop} (hnd : ∀ c, o.op ≠ .defer c) (h : o.wp P a w K Q) : o.wpIn (FW ro) n P a w K Q := by
 refine ⟨fun _ _ => trivial, ?_⟩
 rw [Oper.semAt_eq _ _ _ hnd]
 unfold Oper.wp at h
 generalize (execOp a.eval o).run P w = r at h ⊢
 cases r with
 | ok x w' =>
  cases x <;> simp only [Oper.upon, Oper.uponIn] at h ⊢ <;>
   first
    | exact h
    | exact ⟨fun hd => by simp [FW, Fence.wide] at hd, callsIn_FW h⟩
    | exact ⟨fun hd => by simp [FW, Fence.wide] at hd, rowsIn_FW h⟩
 | halt x w' => cases x <;> simp only [Oper.upon, Oper.uponIn] at h ⊢ <;> exact h
theorem wpOpIn_of {ro : Option Nat} {n : Nat} {P : Program} {ops : Array Oper} {Q : Exit → Act → World → Prop} {i : Nat} {a : Act} {w : World} {K : Act → World → Prop} (hnd : ∀ (i : Nat) (o : Oper), ops[i]? = some o → ∀ c, o.op ≠ .defer c) (hnl : ¬ LetsOut Q)
 (h : wpOp P ops Q i K a w) : wpOpIn (FW ro) n P ops Q i K a w := by
 unfold wpOp at h
 unfold wpOpIn
 cases ho : ops[i]? with
 | none => simp only [ho] at h; exact h
 | some o =>
  simp only [ho] at h ⊢
  by_cases hw : Region.wanted o (yielded ops a.tmps) = true
  · rw [if_pos hw] at h ⊢
    rcases h with h | h
    · exact wpIn_of_wp (hnd i o ho) h
    · exact absurd h.2 hnl
  · rw [if_neg hw] at h ⊢
    exact ⟨fun _ _ => trivial, h⟩
theorem wpAnyIn_of {ro : Option Nat} {n : Nat} {P : Program} {md : Region.Mode} {ops : Array Oper} {Q : Exit → Act → World → Prop} (hnd : ∀ (i : Nat) (o : Oper), ops[i]? = some o → ∀ c, o.op ≠ .defer c) (hnl : ¬ LetsOut Q) :
 ∀ (fuel : Nat) (l : Array Bool) (a : Act) (w : World), wpAny P md ops Q fuel l a w → wpAnyIn (FW ro) n P md ops Q fuel l a w
 | 0, _, _, _, h => h
 | fuel + 1, l, a, w, h => ⟨h.1, fun i hi => wpOpIn_mono (fun a w h => wpAnyIn_of hnd hnl fuel _ a w h) (wpOpIn_of hnd hnl (h.2 i hi))⟩
def noDefer (ops : Array Oper) : Bool := ops.all fun o => match o.op with | .defer _ => false | _ => true
theorem noDefer_spec {ops : Array Oper} (h : noDefer ops = true) : ∀ (i : Nat) (o : Oper), ops[i]? = some o → ∀ c, o.op ≠ .defer c := by
 intro i o ho c e
 unfold noDefer at h
 rw [Array.all_eq_true] at h
 obtain ⟨hi, rfl⟩ := Array.getElem?_eq_some_iff.1 ho
 have := h i hi
 rw [e] at this
 cases this
theorem start_in {P : Program} {ops : Array Oper} {Q : Exit → Act → World → Prop} {S : World → Prop} {ds : List Nat} {lo k : Nat} {id n : Nat} {a : Act} {w : World} (l : Array Bool) (hm : P.follows .mixedOrders = true) (hnd : noDefer ops = true) (hnl : ¬ LetsOut Q) (hn : ops.size = n) (hl : Array.replicate n false = l) (hS : S w.drew)
 (h : S w.drew → wpAnyLast P .any ops Q S ds n l a w.drew) : (Code.region id ops true).wpIn (Fence.wide.inRound lo) k P Q a w := by
 subst hn
 subst hl
 exact wpIn_region_any (F := Fence.wide.inRound lo) hm (wpAnyIn_of (ro := some lo) (noDefer_spec hnd) hnl _ _ _ _ (wpAny_of_last _ _ _ _ (h hS)))
theorem stepIn_of {P : Program} {ops : Array Oper} {Q : Exit → Act → World → Prop} {lo k : Nat} {o : Oper} {rest : List Oper} {a : Act} {w : World} (hw : Region.wanted o (yielded ops a.tmps) = true) (hnd : ∀ c, o.op ≠ .defer c)
 (h : if Region.wanted o (yielded ops a.tmps) = true then o.wp P a w (wpListIn (Fence.wide.inRound lo) k P ops Q rest) Q else wpListIn (Fence.wide.inRound lo) k P ops Q rest (a.put o.dst undef) w) : wpListIn (Fence.wide.inRound lo) k P ops Q (o :: rest) a w := by
 rw [if_pos hw] at h
 unfold wpListIn
 rw [if_pos hw]
 exact wpIn_of_wp (ro := some lo) hnd h
def SeqAllX {α : Type} (F : Fence) (n : Nat) (P : Program) (g : Nat) (lb : Array Value) (encs : α → Array Value) (Mv : World → World → Prop) (Kp : World → World → Prop) (S : List α → Prop) (N : List α → α → World → Prop) (w : World) : Prop :=
 ∀ (l : Nat) (J : List α → World → Prop) (W : World), Below w.heap.size w W → (∀ s A B, J s A → Mv A B → J s B) →
  (∀ pre x W1, J pre W1 → N pre x W1 → YieldAt F (n - 1) P l (encs x) W1 fun e W' => e = .returned (.bool true) ∧ J (pre ++ [x]) W' ∧ Kp W1 W') →
  J [] W →
  CallsIn F n P g (#[.func (.yield l) #[] #[]] ++ lb) W fun e W' => (∃ v, e = .returned v) ∧ ∃ xs, S xs ∧ J xs W'
theorem wpIn_rangeAllX {F : Fence} {n : Nat} {P : Program} {α : Type} {g : Operand} {ps : Array Tmp} {assign body : Code} {Q : Exit → Act → World → Prop} {a : Act} {w : World}
 (hro : F.round = none) (h1 : 1 ≤ n) {gf : Nat} {lb : Array Value} (hg : a.eval g = .func (.func gf) #[] lb) (hFg : F.fn gf) (eg : ∀ args w, (callFunc gf args).run P w = .ok (.enter gf args) w)
 {encs : α → Array Value} {Mv Kp : World → World → Prop} {S : List α → Prop} {N : List α → α → World → Prop} (hseq : SeqAllX F (n - 1) P gf lb encs Mv Kp S N w)
 (hMv : ∀ (A B : World) (k : Nat) (o : Obj), Mv A B → w.heap.size ≤ k → A.heap[k]? = some o → B.heap[k]? = some o)
 (hKt : ∀ {A B C : World}, Kp A B → Kp B C → Kp A C) (hKb : ∀ (W : World) (l : Nat) (o o' : Obj), w.heap.size ≤ l → W.heap[l]? = some o → o.isCells = false → Kp W (W.putObj l o')) (hps : ∀ x, (encs x).size = ps.size)
 (I : List α → World → Prop) (hI : OwnFrom w.heap.size I) (hIr : ∀ s A B, I s A → Mv A B → I s B) (h0 : I [] w)
 (Ix : List α → α → Act → World → Prop) (hIx : ∀ pre x a', OwnFrom w.heap.size (fun (_ : Unit) W => Ix pre x a' W))
 (hassign : ∀ (l : Nat) (pre : List α) (x : α) (W : World) (K : Act → World → Prop), I pre W → N pre x W → (∀ a' W', KeepsFrom w.heap.size W W' → Kp W W' → Ix pre x a' W' → K a' W') →
  assign.wpIn (F.inRound l) (n - 1 - 1) P (Exit.then K (fun _ _ _ => False)) { tmps := (ps.zip (encs x)).foldl (fun t (p, v) => t.setIfInBounds p v) a.tmps, defers := [] } W)
 (hbody : ∀ (l : Nat) (pre : List α) (x : α) (a' : Act) (W : World), Ix pre x a' W → body.wpIn (F.inRound l) (n - 1 - 1) P (goesOn w.heap.size Kp I (pre ++ [x]) W) a' W)
 (hdone : ∀ (D : Nat) (xs : List α) (W : World), w.heap.size ≤ D → S xs → I xs W → W.heap[D]? = some (.deferred (some [])) → Q .normal { a with defers := { target := .collected D, args := #[] } :: a.defers } W) :
 (Code.rangeFunc g ps assign body).wpIn F n P Q a w := by
 refine wpIn_rangeFunc ?_
 intro fn hfn
 rw [hro]
 obtain ⟨rec, hrec⟩ : ∃ rec : LoopState → Option Code → Loop, rec = fun st pe => { state := st, pending := pe, fn, tmps := a.tmps, params := ps, assign, body, defers := w.heap.size } := ⟨_, rfl⟩
 obtain ⟨W1, hW1⟩ : ∃ W1, (w.alloc (.deferred (some []))).alloc (.loop (rec .ready none)) = W1 := ⟨_, rfl⟩
 have hL1 : W1.heap[w.heap.size + 1]? = some (.loop (rec .ready none)) := by
  rw [← hW1]; have := World.alloc_heap_new (w.alloc (.deferred (some []))) (.loop (rec .ready none)); rwa [World.size_alloc] at this
 have hK1 : W1.heap[w.heap.size]? = some (.deferred (some [])) := by
  rw [← hW1]; exact (Below.heap_alloc _ _ _ (by simp)).trans (World.alloc_heap_new w _)
 have hI1 : I [] W1 := by rw [← hW1]; exact hI.alloc _ (hI.alloc _ h0)
 have hb1 : Below w.heap.size w W1 := by
  rw [← hW1]; exact ((Below.refl _ w).alloc (Nat.le_refl _) _).alloc (by simp) _
 refine ⟨w.heap.size + 1, [{ target := .collected w.heap.size, args := #[] }], W1, { target := .fn (.func gf) lb, args := #[.func (.yield (w.heap.size + 1)) #[] #[]] }, W1, gf,
  #[.func (.yield (w.heap.size + 1)) #[] #[]] ++ lb, W1, ?_, ?_, ?_, ?_, fun _ => h1, ?_⟩
 · rw [← hW1, hrec]; exact run_enterLoop_outer _ _ _ _ _
 · simp only [resolve, hg]
   simp [go_sem]
 · intro f' hf'; simp [Target.leads] at hf'; subst hf'; exact hFg
 · simp [invoke, go_sem, eg]
 · refine (hseq (w.heap.size + 1)
    (fun pre W => I pre W ∧ W.heap[w.heap.size + 1]? = some (.loop (rec .ready none)) ∧ W.heap[w.heap.size]? = some (.deferred (some [])))
    W1 hb1
    (fun s A B hs hg' => ⟨hIr s A B hs.1 hg', hMv _ _ _ _ hg' (by omega) hs.2.1, hMv _ _ _ _ hg' (Nat.le_refl _) hs.2.2⟩)
    ?_ ⟨hI1, hL1, hK1⟩).mono ?_
   · rintro pre x W ⟨hi, hl, hk⟩ hN
     have hlt : w.heap.size + 1 < W.heap.size := (Array.getElem?_eq_some_iff.1 hl).1
     have hy := run_yield (P := P) (args := encs x) hl (by rw [hrec]; exact hps x)
     rw [hrec] at hy
     refine ⟨fn, _, assign, body, hy, roundIn_of_wpIn hfn (hassign _ pre x W _ hi hN ?_)⟩
     clear hy
     intro a' Wa hkfa hkpa hia
     replace hl := hkfa.same _ _ (by omega) hl rfl
     replace hk := hkfa.same _ _ (Nat.le_refl _) hk rfl
     replace hlt : w.heap.size + 1 < Wa.heap.size := (Array.getElem?_eq_some_iff.1 hl).1
     refine ⟨_, run_beginRound hl (by rw [hrec]), ?_⟩
     have hl2 : (Wa.putObj (w.heap.size + 1) (.loop { rec .ready none with state := .busy })).heap[w.heap.size + 1]? = some (.loop { rec .ready none with state := .busy }) := World.putObj_heap_same hlt
     have hk2 : (Wa.putObj (w.heap.size + 1) (.loop { rec .ready none with state := .busy })).heap[w.heap.size]? = some (.deferred (some [])) := (World.putObj_heap_other (by omega)).trans hk
     have hw2 : Kp Wa (Wa.putObj (w.heap.size + 1) (.loop { rec .ready none with state := .busy })) := hKb _ _ _ _ (by omega) hl rfl
     refine wpIn_mono (hbody _ pre x a' _ ((hIx pre x a').putObj (s := ()) _ hia (by omega) hl rfl)) ?_
     rintro e a3 W3 hp
     cases e with
     | normal =>
      obtain ⟨hk3, hkp3, hi3⟩ := hp
      have hl3 := hk3.same _ _ (by omega) hl2 rfl
      have hr := run_endRound (P := P) none hl3
      rw [hrec] at hl3 hr ⊢
      exact ⟨_, _, hr, rfl, ⟨hI.putObj _ hi3 (by omega) hl3 rfl, World.putObj_heap_same (Array.getElem?_eq_some_iff.1 hl3).1, (World.putObj_heap_other (by omega)).trans (hk3.same _ _ (Nat.le_refl _) hk2 rfl)⟩,
       hKt hkpa (hKt (hKt (by rw [hrec] at hw2; exact hw2) (by rw [hrec] at hkp3; exact hkp3)) (hKb _ _ _ _ (by omega) hl3 rfl))⟩
     | ret => exact hp.elim
     | exit id => exact hp.elim
     | goto t => exact hp.elim
     | panic ch => exact hp.elim
     | outgrown => exact hp.elim
   · rintro e W2 ⟨⟨v, rfl⟩, ⟨xs, hS, hi, hl, hk⟩⟩
     exact ⟨none, _, by have := run_endLoop (P := P) hl (by rw [hrec]; simp); rw [hrec] at this; exact this, hdone _ xs _ (Nat.le_refl _) hS (hI.putObj _ hi (by omega) hl rfl) ((World.putObj_heap_other (by omega)).trans hk)⟩
end Go.Proofs.Ytmbnjgnmblgjoaa.Man
end
section
namespace Go.Proofs.Ytmbnjgnmblgjoaa.Man
open Go.RowKit
set_option linter.unusedVariables false
set_option linter.unusedSimpArgs false
def Marks (n0 : Nat) : List Deferred → World → Prop
 | [], _ => True
 | d :: ds, W => (∃ D, d = { target := .collected D, args := #[] } ∧ n0 ≤ D ∧ W.heap[D]? = some (.deferred (some [])) ∧ ∀ d' ∈ ds, ∀ D', d'.target = .collected D' → D' < D) ∧ Marks n0 ds W
theorem Marks.lt {n0 : Nat} : ∀ {ds : List Deferred} {W : World}, Marks n0 ds W → ∀ d ∈ ds, ∀ D, d.target = .collected D → D < W.heap.size
 | [], _, _, d, hd, _, _ => by cases hd
 | d0 :: ds, W, ⟨⟨D0, h0, _, hb, _⟩, hr⟩, d, hd, D, hD => by
  rcases List.mem_cons.1 hd with rfl | hd
  · rw [h0] at hD; simp at hD; subst hD; exact (Array.getElem?_eq_some_iff.1 hb).1
  · exact Marks.lt hr d hd D hD
theorem Marks.kept {n0 : Nat} : ∀ {ds : List Deferred} {W W' : World}, Marks n0 ds W → (∀ (k : Nat) (o : Obj), n0 ≤ k → W.heap[k]? = some o → o.isCells = false → W'.heap[k]? = some o) → Marks n0 ds W'
 | [], _, _, _, _ => trivial
 | d0 :: ds, W, W', ⟨⟨D0, h0, hn, hb, hl⟩, hr⟩, h => ⟨⟨D0, h0, hn, h _ _ hn hb rfl, hl⟩, Marks.kept hr h⟩
theorem Marks.kept_lt {n0 B : Nat} : ∀ {ds : List Deferred} {W W' : World}, Marks n0 ds W → (∀ d ∈ ds, ∀ D, d.target = .collected D → D < B) → (∀ k, k < B → W'.heap[k]? = W.heap[k]?) → Marks n0 ds W'
 | [], _, _, _, _, _ => trivial
 | d0 :: ds, W, W', ⟨⟨D0, h0, hn, hb, hl⟩, hr⟩, hB, h => ⟨⟨D0, h0, hn, (h _ (hB d0 (by simp) D0 (by rw [h0]))).trans hb, hl⟩, Marks.kept_lt hr (fun d hd => hB d (List.mem_cons_of_mem _ hd)) h⟩
theorem Marks.push {n0 : Nat} {ds : List Deferred} {W : World} {D : Nat} (h : Marks n0 ds W) (hn : n0 ≤ D) (hb : W.heap[D]? = some (.deferred (some []))) (hl : ∀ d ∈ ds, ∀ D', d.target = .collected D' → D' < D) :
 Marks n0 ({ target := .collected D, args := #[] } :: ds) W := ⟨⟨D, rfl, hn, hb, hl⟩, h⟩
theorem boxed_nc {W W' : World} {row : Option Nat} {B : Nat} {t : TypeId} {v : Value} (h : Boxed W B t v) (hg : W.grownBy W' row) (hr : ∀ r, row = some r → ∃ o : Obj, W.heap[r]? = some o ∧ o.isCells = false) : Boxed W' B t v :=
 h.kept hg (fun e => by obtain ⟨o, ho, hc⟩ := hr B e.symm; rw [show W.heap[B]? = _ from h] at ho; cases ho; cases hc)
theorem own_nc {W W' : World} {row : Option Nat} {base : Nat} {e : TypeId} {size n : Nat} {v : Value} {xs : List Value} (h : W.ownsRow base e size v n xs) (hg : W.grownBy W' row) (hr : ∀ r, row = some r → ∃ o : Obj, W.heap[r]? = some o ∧ o.isCells = false) : W'.ownsRow base e size v n xs := by
 refine h.kept hg ?_
 rcases h.2 with ⟨rfl, _⟩ | ⟨g, cap, cur, rfl, _, hgb, _⟩
 · exact .inl rfl
 · refine .inr (fun e => ?_)
   simp only [Value.ownBlock] at e
   obtain ⟨o, ho, hc⟩ := hr g e.symm
   rw [hgb] at ho; cases ho; cases hc
theorem own_move_ {W W' : World} {base : Nat} {e : TypeId} {size n : Nat} {v : Value} {xs : List Value} (h : W.ownsRow base e size v n xs) (hm : ∀ (k : Nat) (o : Obj), W.heap[k]? = some o → o.isCells = true → W'.heap[k]? = some o) : W'.ownsRow base e size v n xs := by
 obtain ⟨h1, h2⟩ := h
 refine ⟨h1, ?_⟩
 rcases h2 with h2 | ⟨g, cap, cur, rfl, hg, hh, r⟩
 · exact .inl h2
 · exact .inr ⟨g, cap, cur, rfl, hg, hm _ _ hh rfl, r⟩
structure Shut (n0 : Nat) (W W' : World) : Prop where
 os : W'.os = W.os
 tape : W'.tape = W.tape
 output : W'.output = W.output
 size : W'.heap.size = W.heap.size
 block : ∀ k, k < n0 → W'.heap[k]? = W.heap[k]?
 cells : ∀ (k : Nat) (o : Obj), W.heap[k]? = some o → o.isCells = true → W'.heap[k]? = some o
theorem Shut.refl (n0 : Nat) (W : World) : Shut n0 W W := ⟨rfl, rfl, rfl, rfl, fun _ _ => rfl, fun _ _ h _ => h⟩
theorem Shut.below {n0 : Nat} {W W' : World} (h : Shut n0 W W') : Below n0 W W' := ⟨h.os, h.tape, h.output, by rw [h.size]; exact Nat.le_refl _, h.block⟩
theorem Shut.put {n0 : Nat} {W : World} {D : Nat} {o : Obj} (o' : Obj) (hn : n0 ≤ D) (hD : W.heap[D]? = some o) (ho : o.isCells = false) : Shut n0 W (W.putObj D o') :=
 ⟨rfl, rfl, rfl, by simp, fun k hk => World.putObj_heap_other (by omega), fun k o2 h2 hc => (World.putObj_heap_other (fun e => by subst e; rw [hD] at h2; cases h2; rw [ho] at hc; cases hc)).trans h2⟩
theorem Shut.trans {n0 : Nat} {A B C : World} (h : Shut n0 A B) (k : Shut n0 B C) : Shut n0 A C :=
 ⟨k.os.trans h.os, k.tape.trans h.tape, k.output.trans h.output, k.size.trans h.size, fun i hi => (k.block i hi).trans (h.block i hi), fun i o ho hc => k.cells i o (h.cells i o ho hc) hc⟩
theorem leaves_marks {F : Fence} {n : Nat} {P : Program} {fn : Func} {tmps : Array Value} {R : Ending → World → Prop} {n0 : Nat} : ∀ (ds : List Deferred) (W : World), Marks n0 ds W →
 (∀ W', Shut n0 W W' → LeavesInM F n P fn tmps R [] .returning W') → LeavesInM F n P fn tmps R ds .returning W
 | [], W, _, h => h W (Shut.refl _ _)
 | d :: ds, W, ⟨⟨D, hd, hn, hb, hl⟩, hr⟩, h => by
  refine ⟨by simp, .inl ⟨D, _, by rw [hd], run_takeDeferred hb, ?_⟩⟩
  have hs : Shut n0 W (W.putObj D (.deferred none)) := Shut.put _ hn hb rfl
  refine leaves_marks ds _ ?_ (fun W' h' => h W' (hs.trans h'))
  exact marks_put ds hr hl
where
 marks_put {D : Nat} {W : World} {n0 : Nat} : ∀ (ds : List Deferred), Marks n0 ds W → (∀ d' ∈ ds, ∀ D', d'.target = .collected D' → D' < D) → Marks n0 ds (W.putObj D (.deferred none))
  | [], _, _ => trivial
  | d :: ds, ⟨⟨D0, h0, hn, hb, hl⟩, hr⟩, hlt => ⟨⟨D0, h0, hn, (World.putObj_heap_other (by have := hlt d (by simp) D0 (by rw [h0]); omega)).trans hb, hl⟩, marks_put ds hr (fun d' h' => hlt d' (List.mem_cons_of_mem _ h'))⟩
end Go.Proofs.Ytmbnjgnmblgjoaa.Man
end
section
namespace Go.Proofs.YtmbnjgnmblgjoaaW.PrintWords
open Go.RowKit
namespace Kd
section
variable {α : Type} {d : Kd α} {e base g o n cap : Nat} {ok okp : Nat → Prop} {w W : World} {v : Value} {xs : List α}
end
section
variable {α : Type} {enc : α → Value} {h1 : ∀ x, (enc x).oneCell' = true} {e base g o n cap : Nat} {ok : Nat → Prop} {W : World} {xs : List α}
end
end Kd
end Go.Proofs.YtmbnjgnmblgjoaaW.PrintWords
end
section
namespace Go.Proofs.YtmbnjgnmblgjoaaW.PrintWords
open Go.RowKit
namespace Kd
def tag {α : Type} (f : Nat → Nat) (d : Kd α) : Kd (α × Nat) where
 sz := d.sz
 E := d.E
 K := fun w x cs => d.K w x.1 cs
 M := fun w base ok x cs => d.M w base (fun k => ok k ∧ f k = x.2) x.1 cs
 K_len := fun h => d.K_len h
 K_one := fun h => d.K_one h
 K_below := fun hb h => d.K_below hb h
 K_of_M := fun h => d.K_of_M h
 M_mono := fun hok h => d.M_mono (fun k hk => ⟨hok k hk.1, hk.2⟩) h
 M_bound := fun h => d.M_mono (fun _ hk => ⟨⟨hk.1.1, hk.2⟩, hk.1.2⟩) (d.M_bound h)
 M_move := fun hm h => d.M_move (fun k hk => hm k hk.1) h
 M_lower := fun hb h => d.M_lower hb h
def bare {α : Type} (d : Kd α) : Kd α where
 sz := d.sz
 E := d.E
 K := d.K
 M := fun w base _ x cs => d.M w base (fun _ => False) x cs
 K_len := fun h => d.K_len h
 K_one := fun h => d.K_one h
 K_below := fun hb h => d.K_below hb h
 K_of_M := fun h => d.K_of_M h
 M_mono := fun _ h => h
 M_bound := fun h => h
 M_move := fun _ h => d.M_move (fun _ hk => hk.elim) h
 M_lower := fun hb h => d.M_lower hb h
def raw (sz : Nat) : Kd (List Value) where
 sz := sz
 E := []
 K := fun _ x cs => cs = x ∧ cs.length = sz ∧ ∀ u ∈ cs, u.oneCell' = true
 M := fun _ _ _ x cs => cs = x ∧ cs.length = sz ∧ ∀ u ∈ cs, u.oneCell' = true
 K_len := fun h => h.2.1
 K_one := fun h => h.2.2
 K_below := fun _ h => h
 K_of_M := fun h => h
 M_mono := fun _ h => h
 M_bound := fun h => h
 M_move := fun _ h => h
 M_lower := fun _ h => h
def S {α : Type} (d : Kd α) (e : Nat) (w : World) (base : Nat) (ok : Nat → Prop) (v : Value) (xs : List α) : Prop := ∃ f, (tag f d).R e w base ok v xs.zipIdx
section
variable {α β : Type} {d : Kd α} {d' : Kd β} {e e' : Nat} {w w1 W : World} {base b : Nat} {ok ok' okv oku : Nat → Prop} {u v : Value} {xs : List α} {ys : List β}
theorem R_tight (hE : d.E = []) (h : d.R e w base ok v xs) : d.R e w base (fun k => some k = v.ownBlock) v xs := by
 obtain ⟨h0, inner, ho, hr⟩ := h
 refine ⟨fun k hk => hk.symm, inner, ho, hr.imp_ (fun p c hp => d.M_mono (fun k hk => ?_) (d.M_bound hp))⟩
 obtain ⟨_, _, _, q, hq, _⟩ := hk
 rw [hE] at hq
 cases hq
end
section
variable {α β : Type} {d : Kd α} {d' : Kd β} {e e' g : Nat} {w w1 W : World} {base b : Nat} {ok ok' okv oku : Nat → Prop} {u v : Value} {xs : List α} {ys : List β}
end
section
variable {P : Program} {ops : Array Oper} {rest : List Oper} {o : Oper} {a : Act} {Q : Exit → Act → World → Prop} {Kc : Act → World → Prop} {α : Type}
end
def gap {α : Type} (f : Nat → Nat) (d : Kd α) (i : Nat) (c : List Value) : Kd (α × Nat) where
 sz := d.sz
 E := d.E
 K := fun w x cs => (x.2 = i → cs = c ∧ cs.length = d.sz ∧ ∀ u ∈ cs, u.oneCell' = true) ∧ (x.2 ≠ i → d.K w x.1 cs)
 M := fun w base ok x cs => (x.2 = i → cs = c ∧ cs.length = d.sz ∧ ∀ u ∈ cs, u.oneCell' = true) ∧ (x.2 ≠ i → d.M w base (fun k => ok k ∧ f k = x.2) x.1 cs)
 K_len := fun {w x cs} h => by
  by_cases hx : x.2 = i
  · exact (h.1 hx).2.1
  · exact d.K_len (h.2 hx)
 K_one := fun {w x cs} h => by
  by_cases hx : x.2 = i
  · exact (h.1 hx).2.2
  · exact d.K_one (h.2 hx)
 K_below := fun hb h => ⟨h.1, fun hx => d.K_below hb (h.2 hx)⟩
 K_of_M := fun h => ⟨h.1, fun hx => d.K_of_M (h.2 hx)⟩
 M_mono := fun hok h => ⟨h.1, fun hx => d.M_mono (fun k hk => ⟨hok k hk.1, hk.2⟩) (h.2 hx)⟩
 M_bound := fun h => ⟨h.1, fun hx => d.M_mono (fun _ hk => ⟨⟨hk.1.1, hk.2⟩, hk.1.2⟩) (d.M_bound (h.2 hx))⟩
 M_move := fun hm h => ⟨h.1, fun hx => d.M_move (fun k hk => hm k hk.1) (h.2 hx)⟩
 M_lower := fun hb h => ⟨h.1, fun hx => d.M_lower hb (h.2 hx)⟩
def H {α : Type} (d : Kd α) (e : Nat) (w : World) (base : Nat) (ok : Nat → Prop) (v : Value) (xs : List α) (i : Int) (oki : Nat → Prop) (c : List Value) : Prop :=
 (∀ k, oki k → ok k) ∧ ∃ f, (gap f d i.toNat c).R e w base (fun k => ok k ∧ ¬ oki k) v xs.zipIdx
section
variable {α β : Type} {d : Kd α} {e e' g n cap : Nat} {w w1 W : World} {base : Nat} {ok ok' oki okp : Nat → Prop} {u v : Value} {xs : List α} {i : Int} {c : List Value}
end
section
variable {P : Program} {ops : Array Oper} {rest : List Oper} {o : Oper} {a : Act} {Q : Exit → Act → World → Prop} {α : Type}
end
end Kd
end Go.Proofs.YtmbnjgnmblgjoaaW.PrintWords
end
section
namespace Go.Proofs.YtmbnjgnmblgjoaaW.PrintWords
open Go.RowKit
namespace Kd
theorem reps_one {α : Type} {R : α → List Value → Prop} {size : Nat} {ps : List α} {cs : List Value} (h : Reps R size ps cs) (hs0 : 0 < size) (hR : ∀ p c, R p c → ∀ u ∈ c, u.oneCell' = true) : ∀ u ∈ cs, u.oneCell' = true := by
 intro u hu
 obtain ⟨q, hq, rfl⟩ := List.mem_iff_getElem.1 hu
 have hql : q / size < ps.length := by
  rw [Nat.div_lt_iff_lt_mul hs0, ← h.1]
  exact hq
 refine hR _ _ (h.2 (q / size) _ (List.getElem?_eq_getElem hql)) _ ?_
 rw [List.mem_iff_getElem?]
 refine ⟨q % size, ?_⟩
 rw [List.getElem?_take, if_pos (Nat.mod_lt _ hs0), List.getElem?_drop, Nat.mul_comm, Nat.div_add_mod, List.getElem?_eq_getElem hq]
def arr {α : Type} (n : Nat) (d : Kd α) (hs : 0 < d.sz) : Kd (List α) where
 sz := n * d.sz
 E := d.E
 K := fun w xs cs => xs.length = n ∧ Reps (d.K w) d.sz xs cs
 M := fun w base ok xs cs => xs.length = n ∧ Reps (d.M w base ok) d.sz xs cs
 K_len := fun h => by rw [← h.1]; exact h.2.1
 K_one := fun h => reps_one h.2 hs (fun _ _ hk => d.K_one hk)
 K_below := fun hb h => ⟨h.1, h.2.imp_ (fun _ _ hk => d.K_below hb hk)⟩
 K_of_M := fun h => ⟨h.1, h.2.imp_ (fun _ _ hk => d.K_of_M hk)⟩
 M_mono := fun hok h => ⟨h.1, h.2.imp_ (fun _ _ hk => d.M_mono hok hk)⟩
 M_bound := fun h => ⟨h.1, h.2.imp_ (fun _ _ hk => d.M_bound hk)⟩
 M_move := fun hm h => ⟨h.1, h.2.imp_ (fun _ _ hk => d.M_move hm hk)⟩
 M_lower := fun hb h => ⟨h.1, h.2.imp_ (fun _ _ hk => d.M_lower hb hk)⟩
section
variable {α : Type} {n : Nat} {d : Kd α} {hs : 0 < d.sz} {w : World} {base : Nat} {ok : Nat → Prop} {xs : List α} {cs : List Value}
end
section
variable {α : Type} {n : Nat} {enc : α → Value} {h1 : ∀ x, (enc x).oneCell' = true} {hs : 0 < (scalar enc h1).sz} {w : World} {base : Nat} {ok : Nat → Prop} {xs : List α} {cs : List Value}
end
end Kd
end Go.Proofs.YtmbnjgnmblgjoaaW.PrintWords
end
section
namespace Go.Proofs.YtmbnjgnmblgjoaaW.PrintWords
open Go.RowKit
section
variable {P : Program}
end
namespace Kd
section
variable {P : Program} {ops : Array Oper} {rest : List Oper} {o : Oper} {a : Act} {Q : Exit → Act → World → Prop} {Kc : Act → World → Prop} {α : Type}
end
def tagO {α : Type} (f : Nat → Nat) (d : Kd α) : Kd (α × Option Nat) where
 sz := d.sz
 E := d.E
 K := fun w x cs => d.K w x.1 cs
 M := fun w base ok x cs => d.M w base (fun k => ok k ∧ some (f k) = x.2) x.1 cs
 K_len := fun h => d.K_len h
 K_one := fun h => d.K_one h
 K_below := fun hb h => d.K_below hb h
 K_of_M := fun h => d.K_of_M h
 M_mono := fun hok h => d.M_mono (fun k hk => ⟨hok k hk.1, hk.2⟩) h
 M_bound := fun h => d.M_mono (fun _ hk => ⟨⟨hk.1.1, hk.2⟩, hk.1.2⟩) (d.M_bound h)
 M_move := fun hm h => d.M_move (fun k hk => hm k hk.1) h
 M_lower := fun hb h => d.M_lower hb h
section
variable {α : Type} {d : Kd α} {e : Nat} {w : World} {base : Nat} {ok : Nat → Prop} {v : Value} {xs : List α}
def zipO (xs : List α) (z : α) (m : Nat) : List (α × Option Nat) := xs.zipIdx.map (fun p => (p.1, some p.2)) ++ List.replicate m (z, none)
end
section
variable {P : Program} {ops : Array Oper} {rest : List Oper} {o : Oper} {a : Act} {Q : Exit → Act → World → Prop} {Kc : Act → World → Prop} {α : Type}
end
end Kd
end Go.Proofs.YtmbnjgnmblgjoaaW.PrintWords
end
section
namespace Go.Proofs.YtmbnjgnmblgjoaaW.PrintWords
open Go.RowKit
namespace Kd
structure Heap {α : Type} (d : Kd α) : Prop where
 K : ∀ {w w1 : World} {x : α} {cs : List Value}, (∀ k, k < w.heap.size → w1.heap[k]? = w.heap[k]?) → d.K w x cs → d.K w1 x cs
section
variable {α : Type} {d : Kd α} {e base g n c : Nat} {ok : Nat → Prop} {w w0 W : World} {A : Option Addr} {xs : List α}
end
end Kd
end Go.Proofs.YtmbnjgnmblgjoaaW.PrintWords
end
section
namespace Go.Proofs.YtmbnjgnmblgjoaaW.PrintWords
open Go.RowKit
def Kept (w W : World) (S : Nat → Prop) : Prop := w.heap.size ≤ W.heap.size ∧ ∀ i, i < w.heap.size → ¬ S i → W.heap[i]? = w.heap[i]?
section
variable {w W W2 : World} {S S2 S' : Nat → Prop}
end
namespace Kd
section
variable {α : Type} {d : Kd α} {e base n c : Nat} {ok oki S S2 : Nat → Prop} {w w0 W W1 W2 : World} {v : Value} {A : Option Addr} {xs : List α} {i : Int} {cs : List Value}
end
end Kd
end Go.Proofs.YtmbnjgnmblgjoaaW.PrintWords
end
section
namespace Go.Proofs.YtmbnjgnmblgjoaaW.PrintWords
open Go.RowKit
def Foot (P : World → Prop) (W : World) (ok : Nat → Prop) : Prop := ∀ W' : World, (∀ k, ok k → k < W.heap.size → W'.heap[k]? = W.heap[k]?) → P W'
namespace Foot
variable {P Q : World → Prop} {W W1 : World} {ok ok' : Nat → Prop}
end Foot
namespace Kd
def F {α : Type} (d : Kd α) (W : World) (ok : Nat → Prop) (A : Option Addr) (n : Nat) (xs : List α) : Prop := Foot (fun W => d.C W A n xs) W ok
def FK {α : Type} (d : Kd α) (W : World) (ok : Nat → Prop) (x : α) (c : List Value) : Prop := Foot (fun W => d.K W x c) W ok
section
variable {α β : Type} {d : Kd α} {e base n n' cc g N : Nat} {ok ok' okp S : Nat → Prop} {w w0 w1 W W1 : World} {A A' : Option Addr} {u v v1 : Value} {xs : List α} {xs' : List β} {d' : Kd β} {x : α} {c : List Value}
end
end Kd
end Go.Proofs.YtmbnjgnmblgjoaaW.PrintWords
end
section
namespace Go.Proofs.YtmbnjgnmblgjoaaW.PrintWords
open Go.RowKit
namespace Kd
def chunks (sz : Nat) (n : Nat) (inner : List Value) : List (List Value) := (List.range n).map fun j => (inner.drop (j * sz)).take sz
section
variable {α : Type} {d : Kd α} {e base n cc g : Nat} {ok ok' okp S : Nat → Prop} {w w1 W W1 : World} {A : Option Addr} {u v v1 : Value} {xs : List α} {x : α} {c : List Value}
def N {α : Type} (d : Kd α) (e : Nat) (w : World) (base : Nat) (ok : Nat → Prop) (v : Value) (xs : List α) : Prop :=
 (∀ k, v.ownBlock = some k → ok k) ∧ ∃ rows : List (List Value), rows.length = xs.length ∧ (raw d.sz).R e w base (fun k => some k = v.ownBlock) v rows ∧ ∀ (j : Nat) (x : α) (c : List Value), xs[j]? = some x → rows[j]? = some c → FK d w (fun k => ok k ∧ some k ≠ v.ownBlock) x c
end
end Kd
end Go.Proofs.YtmbnjgnmblgjoaaW.PrintWords
end
section
namespace Go.Proofs.YtmbnjgnmblgjoaaW.PrintWords
open Go.RowKit
namespace Kd
section
variable {α : Type} {d : Kd α} {e base n cap g : Nat} {ok ok' okp : Nat → Prop} {w w1 W : World} {v v1 : Value} {xs ys : List α}
end
section
variable {P : Program} {ops : Array Oper} {rest : List Oper} {o : Oper} {a : Act} {Q : Exit → Act → World → Prop} {Kc : Act → World → Prop} {α : Type}
end
end Kd
end Go.Proofs.YtmbnjgnmblgjoaaW.PrintWords
end
section
namespace Go.Proofs.YtmbnjgnmblgjoaaW.PrintMore
open Go.RowKit Go.Proofs.YtmbnjgnmblgjoaaW.PrintWords
namespace Kd
open Go.Proofs.YtmbnjgnmblgjoaaW.PrintWords.Kd
end Kd
namespace Kd
open Go.Proofs.YtmbnjgnmblgjoaaW.PrintWords.Kd
section
variable {α : Type} {d : Kd α} {e base g N : Nat} {ok : Nat → Prop} {W w1 : World} {u v : Value} {xs : List α}
end
end Kd
theorem max2_int (k k' : IntKind) (x y : Int) : Builtin.max2 (.int k x) (.int k' y) = pure (.int k (if x < y then y else x)) := by simp only [Builtin.max2, gt_iff_lt]
theorem min2_int (k k' : IntKind) (x y : Int) : Builtin.min2 (.int k x) (.int k' y) = pure (.int k (if y < x then y else x)) := by simp only [Builtin.min2]
theorem max_two (ats : Array TypeId) (ty : TypeId) (a b : Value) : Builtin.max_ ats ty #[a, b] = (Builtin.max2 a b >>= fun s => pure s) := by simp only [Builtin.max_, List.foldlM_cons, List.foldlM_nil]
theorem min_two (ats : Array TypeId) (ty : TypeId) (a b : Value) : Builtin.min_ ats ty #[a, b] = (Builtin.min2 a b >>= fun s => pure s) := by simp only [Builtin.min_, List.foldlM_cons, List.foldlM_nil]
theorem max_three (ats : Array TypeId) (ty : TypeId) (a b c : Value) : Builtin.max_ ats ty #[a, b, c] = (Builtin.max2 a b >>= fun s => Builtin.max2 s c >>= fun s => pure s) := by simp only [Builtin.max_, List.foldlM_cons, List.foldlM_nil]
theorem min_three (ats : Array TypeId) (ty : TypeId) (a b c : Value) : Builtin.min_ ats ty #[a, b, c] = (Builtin.min2 a b >>= fun s => Builtin.min2 s c >>= fun s => pure s) := by simp only [Builtin.min_, List.foldlM_cons, List.foldlM_nil]
theorem max_four (ats : Array TypeId) (ty : TypeId) (a b c d : Value) : Builtin.max_ ats ty #[a, b, c, d] = (Builtin.max2 a b >>= fun s => Builtin.max2 s c >>= fun s => Builtin.max2 s d >>= fun s => pure s) := by simp only [Builtin.max_, List.foldlM_cons, List.foldlM_nil]
theorem min_four (ats : Array TypeId) (ty : TypeId) (a b c d : Value) : Builtin.min_ ats ty #[a, b, c, d] = (Builtin.min2 a b >>= fun s => Builtin.min2 s c >>= fun s => Builtin.min2 s d >>= fun s => pure s) := by simp only [Builtin.min_, List.foldlM_cons, List.foldlM_nil]
end Go.Proofs.YtmbnjgnmblgjoaaW.PrintMore
namespace Go.Proofs.YtmbnjgnmblgjoaaW.PrintWords
open Go.RowKit
section
variable {P : Program} {ops : Array Oper} {rest : List Oper} {o : Oper} {a : Act} {Q : Exit → Act → World → Prop} {W : World}
theorem gate_callee {f : FuncId} {as_ : Array Operand} {ts : Array TypeId} (_ho : o.op = .call { callee := .value (.func f), args := as_, argTypes := ts }) (h : wpList P ops Q (o :: rest) a W) : wpList P ops Q (o :: rest) a W := h
theorem gate_builtin {b : Builtin} {xs : Array Operand} {ts : Array TypeId} (_ho : o.op = .call { callee := .builtin b, args := xs, argTypes := ts }) (h : wpList P ops Q (o :: rest) a W) : wpList P ops Q (o :: rest) a W := h
end
def mx (a b : Int) : Int := if a < b then b else a
def mn (a b : Int) : Int := if b < a then b else a
def shl (k : IntKind) (x y : Int) : Int := k.wrap (x * 2 ^ min y.toNat k.bits)
def shr (k : IntKind) (x y : Int) : Int := x / 2 ^ min y.toNat k.bits
theorem shl_small {k : IntKind} {x y j : Int} (h : shl k x y = j) (hy : y ≤ k.bits) : k.wrap (x * 2 ^ y.toNat) = j := by rw [← h]; unfold shl; rw [Nat.min_eq_left (by omega)]
namespace Kd
section
variable {α : Type} {d : Kd α} {e base : Nat} {ok : Nat → Prop} {W w1 : World} {v : Value} {xs : List α}
end
section
variable {α : Type} {d : Kd α} {e base g n cap : Nat} {ok oki okp : Nat → Prop} {W : World} {xs : List α} {i : Int} {c : List Value}
end
section
variable {α : Type} {d : Kd α} {e base b b' g N : Nat} {ok ok1 : Nat → Prop} {W W2 w1 : World} {u v : Value} {xs ys : List α} {S : Nat → Prop}
end
end Kd
end Go.Proofs.YtmbnjgnmblgjoaaW.PrintWords
namespace Go.Proofs.YtmbnjgnmblgjoaaW.PrintWords
open Go.RowKit
namespace Kd
def V {α : Type} (d : Kd α) (_e : Nat) (W : World) (_base : Nat) (ok : Nat → Prop) (v : Value) (xs : List α) : Prop := ∃ A c, v = .slice A xs.length c ∧ xs.length ≤ c ∧ F d W ok A xs.length xs
section
variable {α β : Type} {d : Kd α} {e base base' n m c g N' lo hi : Nat} {ok ok' S : Nat → Prop} {w W w1 : World} {A : Option Addr} {ad : Addr} {u v v1 : Value} {xs : List α}
end
end Kd
end Go.Proofs.YtmbnjgnmblgjoaaW.PrintWords
end
section
namespace Go.Proofs.Ytmbnjgnmblgjoaa.Man
open Go.RowKit Go.Shelf Go.Proofs.YtmbnjgnmblgjoaaW.PrintWords Go.Proofs.YtmbnjgnmblgjoaaW.PrintLast Go.Proofs.YtmbnjgnmblgjoaaW.PrintMore
set_option linter.unusedVariables false
set_option linter.unusedSimpArgs false
attribute [local go_sem] Oper.semAt_some
def vb (n : Nat) : List Int := if h : n < 128 then [(n : Int)] else ((n % 128 + 128 : Nat) : Int) :: vb (n / 128)
termination_by n
decreasing_by omega
theorem vb_small {n : Nat} (h : n < 128) : vb n = [(n : Int)] := by rw [vb, dif_pos h]
theorem vb_great {n : Nat} (h : ¬ n < 128) : vb n = ((n % 128 + 128 : Nat) : Int) :: vb (n / 128) := by rw [vb, dif_neg h]
theorem or128 (n : Nat) : Go.bits .or .u8 ((n % 256 : Nat) : Int) 128 = ((n % 128 + 128 : Nat) : Int) := by
 have h : ∀ m : Fin 256, Go.bits .or .u8 ((m.val : Nat) : Int) 128 = ((m.val % 128 + 128 : Nat) : Int) := by decide +kernel
 have := h ⟨n % 256, Nat.mod_lt _ (by decide)⟩
 simp only at this
 rw [this]; congr 1; omega
def boxNat (W : World) (B : Nat) : Nat := match W.cell? ⟨B, 0, none⟩ with | some (.int _ m) => m.toNat | _ => 0
theorem boxNat_eq {W : World} {B t : Nat} {k : IntKind} {m : Nat} (h : Boxed W B t (.int k m)) : boxNat W B = m := by unfold boxNat; rw [h.cell]; simp
def Turns (B : Nat) (X Y : World) : Prop := ∃ u : Int, Y = X.setCell ⟨B, 0, none⟩ (.int .u64 u)
theorem Turns.grown {B : Nat} {X Y : World} (h : Turns B X Y) : X.grownBy Y (some B) := by obtain ⟨u, rfl⟩ := h; exact grownBy_setCell' _ _ _
theorem groups_in (F : Fence) (k : Nat) (h1 : F.fn 141) (hro : F.round = none) (n : Int) (w : World) :
 CallsIn F k Try.prog 141 #[.int .u64 n] w fun e w' => e = .returned (.func (.func 159) #[] #[.pointer (some ⟨w.heap.size, 0, none⟩)]) ∧ w' = w.alloc (.cells #[.int .u64 n] 90) := by
 refine callsIn_of_wp Try.func141 rfl h1 ?_ hro
 simp only [Try.ntmps141, List.size_toArray, List.length_cons, List.length_nil, Nat.reduceAdd, Nat.reduceSub, Array.replicate_succ, Array.replicate_zero, List.push_toArray, List.append_toArray, List.nil_append, List.cons_append]
 gi_wp2
 go_ret
 exact ⟨rfl, rfl⟩
set_option maxRecDepth 100000 in
set_option maxHeartbeats 2000000 in
theorem groups1_in (F : Fence) (k : Nat) (h1 : F.fn 159) (hro : F.round = none) (hk : 1 ≤ k) (l Bn : Nat) (n : Nat) (hn : n < 18446744073709551616) (J : List Int → World → Prop)
 (hJ : ∀ s A B, J s A → Turns Bn A B → J s B)
 (hY : ∀ pre x W, J pre W → pre ++ [x] <+: vb n → YieldAt F (k - 1) Try.prog l #[.int .u8 x] W fun e W' => e = .returned (.bool true) ∧ J (pre ++ [x]) W' ∧ W'.heap[Bn]? = W.heap[Bn]?)
 (W : World) (hB : Boxed W Bn 90 (.int .u64 n)) (h0 : J [] W) :
 CallsIn F k Try.prog 159 #[.func (.yield l) #[] #[], .pointer (some ⟨Bn, 0, none⟩)] W fun e W' => (∃ v, e = .returned v) ∧ ∃ xs, xs = vb n ∧ J xs W' := by
 refine callsIn_of_wp Try.func159 rfl h1 ?_ hro
 simp only [Try.ntmps159, List.size_toArray, List.length_cons, List.length_nil, Nat.reduceAdd, Nat.reduceSub, Array.replicate_succ, Array.replicate_zero, List.push_toArray, List.append_toArray, List.nil_append, List.cons_append]
 gi_wp2
 gi_loopw [3] (fun _ wr => ∃ (pre : List Int) (m : Nat), Hid (vb n = pre ++ vb m) ∧ m < 18446744073709551616 ∧ Boxed wr Bn 90 (.int .u64 (m : Int)) ∧ J pre wr)
  (fun _ wr => boxNat wr Bn)
 case atStart => exact ⟨[], n, Lib.hid rfl, hn, hB, h0⟩
 case round =>
  clear hB h0
  obtain ⟨pre, m, hx, hm, hB, hJs⟩ := hrel
  have cB := hB.cell
  have fB := hB.frozen
  have hlt := hB.lt
  by_cases hs : m < 128
  · have hd : ((m : Int) > 127) = False := by simp; omega
    have ht : decide ((m : Int) > 127) = false := by simp; omega
    have hpx : pre ++ [(m : Int)] <+: vb n := by rw [hx.out, vb_small hs]; exact List.prefix_refl _
    obtain ⟨fn, tmps, assign, body, hy, hR⟩ := hY pre (m : Int) wr hJs hpx
    have HX := Lib.hid hpx
    clear hpx
    gi_wp2
    refine hR.mono ?_
    rintro e W3 ⟨rfl, hJ3, hk3⟩
    gi_wp2
    go_end0
    exact ⟨⟨_, rfl⟩, pre ++ [(m : Int)], by rw [hx.out, vb_small hs], hJ3⟩
  · have ht : decide ((m : Int) > 127) = true := by simp; omega
    have hpx : pre ++ [((m % 128 + 128 : Nat) : Int)] <+: vb n := by
     rw [hx.out, vb_great hs]; exact ⟨vb (m / 128), by simp⟩
    have ho : Go.bits .or .u8 ((m : Int) % 256) 128 = ((m % 128 + 128 : Nat) : Int) := by have := or128 m; simpa using this
    obtain ⟨x, hxe⟩ : ∃ x, ((m % 128 + 128 : Nat) : Int) = x := ⟨_, rfl⟩
    rw [hxe] at ho hpx
    have HXE := Lib.hid hxe
    clear hxe
    obtain ⟨fn, tmps, assign, body, hy, hR⟩ := hY pre _ wr hJs hpx
    have HX := Lib.hid hpx
    clear hpx
    gi_wp2
    refine hR.mono ?_
    rintro e W3 ⟨rfl, hJ3, hk3⟩
    have hB3 : Boxed W3 Bn 90 (.int .u64 (m : Int)) := hk3.trans hB
    have cB3 := hB3.cell
    have fB3 := hB3.frozen
    gi_wp2
    go_roundw
    case rel =>
     refine ⟨pre ++ [x], m / 128, Lib.hid (by rw [hx.out, vb_great hs, ← HXE.out]; simp), by omega, ?_, hJ _ _ _ hJ3 ⟨_, rfl⟩⟩
     have := hB3.set (.int .u64 ((m : Int) / 128))
     simpa using this
    case measure =>
     have := hB3.set (.int .u64 ((m : Int) / 128))
     rw [boxNat_eq (m := m / 128) (by simpa using this), boxNat_eq hB]
     omega
theorem groups_all (F : Fence) (k : Nat) (h1 : F.fn 159) (hro : F.round = none) (hk : 1 ≤ k) (Bn n : Nat) (hn : n < 18446744073709551616) (w : World) (hB : Boxed w Bn 90 (.int .u64 n)) :
 SeqAll F k Try.prog 159 #[.pointer (some ⟨Bn, 0, none⟩)] (fun x : Int => #[Value.int .u8 x]) (Turns Bn) (fun A B => B.heap[Bn]? = A.heap[Bn]?) (fun xs => xs = vb n) (fun pre => pre <+: vb n) w :=
 fun l J W hW hJ hY h0 => groups1_in F k h1 hro hk l Bn n hn J hJ hY W ((hW.block Bn hB.lt).trans hB) h0
theorem vb_length_pos (n : Nat) : 0 < (vb n).length := by
 by_cases h : n < 128
 · rw [vb_small h]; simp
 · rw [vb_great h]; simp
theorem vb_length_le (j : Nat) : ∀ n : Nat, n < 128 ^ (j + 1) → (vb n).length ≤ j + 1 := by
 induction j with
 | zero => intro n h; rw [vb_small (by simpa using h)]; simp
 | succ j ih =>
  intro n h
  by_cases hs : n < 128
  · rw [vb_small hs]; simp
  · rw [vb_great hs]
    have := ih (n / 128) (by rw [Nat.pow_succ] at h; exact Nat.div_lt_of_lt_mul (by omega))
    simp only [List.length_cons]; omega
theorem vb_le_ten {n : Nat} (h : n < 18446744073709551616) : (vb n).length ≤ 10 := vb_length_le 9 n (by omega)
theorem groups_any (n : Int) (w : World) : Calls Try.prog 141 #[.int .u64 n] w fun e w' => e = .returned (.func (.func 159) #[] #[.pointer (some ⟨w.heap.size, 0, none⟩)]) ∧ w' = w.alloc (.cells #[.int .u64 n] 90) :=
 callsIn_wide.1 (groups_in Fence.wide 3 trivial rfl n w)
def vbs (l : List Int) : List Int := l.flatMap fun x => vb x.toNat
theorem vbs_snoc (l : List Int) (x : Int) : vbs (l ++ [x]) = vbs l ++ vb x.toNat := by simp [vbs]
def areU64 (l : List Int) : Bool := l.all fun c => decide (0 ≤ c ∧ c < 18446744073709551616)
theorem areU64_get {l : List Int} (h : areU64 l = true) {k : Nat} (hk : k < l.length) : 0 ≤ l.getD k 0 ∧ l.getD k 0 < 18446744073709551616 := by
 unfold areU64 at h
 rw [List.all_eq_true] at h
 have := h (l.getD k 0) (by rw [show l.getD k 0 = l[k] by simp [List.getD, hk]]; exact List.getElem_mem hk)
 simpa using this
set_option maxRecDepth 100000 in
set_option maxHeartbeats 4000000 in
theorem put_any (A0 A1 : Option Addr) (c0 c1 : Nat) (b l : List Int) (w : World) (hb : Kd.C (Kd.int .u8) w A0 b.length b) (hl : Kd.C (Kd.int .u64) w A1 l.length l) (hU : areU64 l = true) (hroom : (b ++ vbs l).length ≤ 140737488355328) :
 Calls Try.prog 89 #[.slice A0 b.length c0, .slice A1 l.length c1] w fun e w' => ∃ v, e = .returned v ∧ Kd.R (Kd.int .u8) 5 w' w.heap.size (fun _ => True) v (b ++ vbs l) ∧ Below w.heap.size w w' := by
 have info5 : (Try.prog.info? 5).map (fun i => (i.zero, i.size, i.bytes)) = some (some (.int .u8 0), 1, 1) := by kernel_rfl
 obtain ⟨i0, hi, hz0, hz1, hz2⟩ := info_parts info5
 have HB := Lib.hid hb
 have HL := Lib.hid hl
 have HU := Lib.hid hU
 have HR := Lib.hid hroom
 clear hb hl hU hroom
 refine (callsIn_wide (n := 3)).1 ?_
 refine callsIn_of_wp_marks Try.func89 rfl trivial ?_ rfl
 simp only [Try.ntmps89, List.size_toArray, List.length_cons, List.length_nil, Nat.reduceAdd, Nat.reduceSub, Array.replicate_succ, Array.replicate_zero, List.push_toArray, List.append_toArray, List.nil_append, List.cons_append]
 refine wpIn_wide.2 ?_
 go_upto_region 1 with (fail)
 go_step
 go_step
 go_step
 go_step
 at_builtin
 refine Kd.R_append_rows (Kd.int .u8) (w0 := w) w.heap.size rfl (.const (.slice none 0 0)) (.tmp 9) 27 5 (.int .u8 0) 1 rfl Try.underlying27 info5 rfl (by decide) (by omega) (.slice none 0 0) [] b _ _ _ (fun _ => True) (fun _ => False) rfl rfl (Kd.R_nil _ _ _ _ _) ?aR (fun _ _ h => h) (fun _ h => h.elim) (fun _ _ => trivial) (Below.refl _ _) (Nat.le_refl _) ?aL ?_
 (case aR => exact HB.out)
 (case aL => (have := HR.out; simp at this ⊢; omega))
 intro v1 w1 hown hbel _ _
 have hlu : l.length ≤ 9223372036854775807 := HL.out.2.1
 have HO := Lib.hid (Kd.own_of_R hown)
 have HBL := Lib.hid hbel
 clear hown hbel
 obtain ⟨A2, c2, rfl⟩ := own_slice HO.out
 go_wp2
 obtain ⟨I, HI⟩ : ∃ I : Act → World → Prop, Hid (∀ a wr, I a wr ↔ ∃ (k : Nat) (v : Value) (ds : List Deferred) (x7 x8 x14 x15 x16 x17 x18 x19 x20 x21 x22 x23 x24 : Value), k ≤ l.length ∧ Boxed wr w1.heap.size 27 v ∧
  wr.ownsRow w.heap.size 5 1 v (b ++ vbs (l.take k)).length (encs (Value.int .u8) (b ++ vbs (l.take k))) ∧ Below w.heap.size w wr ∧ Marks w.heap.size ds wr ∧
  a = { tmps := #[.slice A0 b.length c0, .slice A1 l.length c1, undef, undef, .slice none 0 0, .pointer (some ⟨w1.heap.size, 0, none⟩), undef, x7, x8, .slice A0 b.length c0, .slice A2 b.length c2, .slice A1 l.length c1, .int .i64 l.length, .int .i64 k, x14, x15, x16, x17, x18, x19, x20, x21, x22, x23, x24, undef], defers := ds }) := ⟨_, Lib.hid fun _ _ => Iff.rfl⟩
 obtain ⟨μ, Hμ⟩ : ∃ μ : Act → World → Nat, Hid (∀ a wr, μ a wr = l.length - (intOf (a.tmps.getD 13 undef)).toNat) := ⟨_, Lib.hid fun _ _ => rfl⟩
 refine wp_loop I μ ?start ?round
 case start =>
  exact (HI.out _ _).2 ⟨0, _, [], undef, undef, undef, undef, undef, undef, undef, undef, undef, undef, undef, undef, undef, Nat.zero_le _, Boxed.new w1 _ _, by simpa [vbs] using HO.out.alloc _, HBL.out.alloc HBL.out.size _, trivial, rfl⟩
 case round =>
  intro a wr hI
  obtain ⟨k, v, ds, x7, x8, x14, x15, x16, x17, x18, x19, x20, x21, x22, x23, x24, hk, hbx', hown', hbel', hmk', rfl⟩ := (HI.out _ _).1 hI
  clear hI
  obtain ⟨A3, c3, rfl⟩ := own_slice hown'
  have hbx := Lib.hid hbx'
  have hown := Lib.hid hown'
  have hbel := Lib.hid hbel'
  have hmk := Lib.hid hmk'
  clear hbx' hown' hbel' hmk'
  by_cases hlt : k < l.length
  · obtain ⟨ad, rfl, hcell⟩ := Kd.at_int (Kd.C_below HL.out hbel.out) (k : Int) (by omega) (by omega)
    have hrd : rd l (k : Int) = l.getD k 0 := rfl
    rw [hrd, Int.toNat_natCast] at hcell
    obtain ⟨hx0, hx1⟩ := areU64_get HU.out hlt
    obtain ⟨x, hx⟩ : ∃ x : Nat, l.getD k 0 = (x : Int) := ⟨(l.getD k 0).toNat, by omega⟩
    rw [hx] at hcell hx1
    have HX := Lib.hid hx
    clear hrd hx hx0
    have hx2 : x < 18446744073709551616 := by omega
    clear hx1
    go_wp2_with (go_at_call 141; refine (groups_any _ _).mono ?_; rintro e w' ⟨rfl, rfl⟩)
    have bN := Boxed.new wr 90 (.int .u64 (x : Int))
    have hvk : vbs (l.take (k + 1)) = vbs (l.take k) ++ vb x := by
     rw [List.take_succ_eq_append_getElem hlt, vbs_snoc]
     congr 2
     have := HX.out
     rw [show l.getD k 0 = l[k] by simp [List.getD, hlt]] at this
     rw [this]; rfl
    have hlen : (b ++ vbs (l.take k)).length + (vb x).length ≤ 140737488355328 := by
     have h1 := HR.out
     have h2 : (vbs (l.take (k + 1))).length ≤ (vbs l).length := by
      have : vbs l = vbs (l.take (k + 1)) ++ vbs (l.drop (k + 1)) := by unfold vbs; rw [← List.flatMap_append, List.take_append_drop]
      rw [this]; simp
     rw [hvk] at h2
     simp only [List.length_append] at *; omega
    have HVK := Lib.hid hvk
    clear hvk
    refine (wpIn_wide (n := 3)).1 ?_
    refine wpIn_rangeAll rfl (by decide) (gf := 159) (lb := #[.pointer (some ⟨wr.heap.size, 0, none⟩)]) rfl trivial (enters_of Try.func159 (by kernel_rfl) rfl)
     (groups_all Fence.wide 2 trivial rfl (by decide) wr.heap.size x hx2 _ bN) (fun A B j o hg hj h => (hg.grown.block _ (Array.getElem?_eq_some_iff.1 h).1 (fun e => by cases e; simp only [World.size_alloc] at hj; omega)).trans h)
     (fun h k => Eq.trans k h) (fun W l o o' hl h _ => World.putObj_heap_other (by simp at hl; omega)) ?hps
     (fun pre W => ∃ v, Boxed W w1.heap.size 27 v ∧ W.ownsRow w.heap.size 5 1 v ((b ++ vbs (l.take k)) ++ pre).length (encs (Value.int .u8) ((b ++ vbs (l.take k)) ++ pre)) ∧ Below w.heap.size w W ∧ (∃ u, Boxed W wr.heap.size 90 (.int .u64 u)) ∧ Marks w.heap.size ds W)
     ?hI ?hIr ?h0 ?fr ?assign ?body ?done
    case hps => intro _; rfl
    case hI =>
     rintro s X Y row ⟨v, hb, ho, hB, ⟨u, hu⟩, hm⟩ hg hr
     have nc := fun r e => (hr r e).2
     have hge : ∀ r, row = some r → wr.heap.size + 1 ≤ r := fun r e => by have := (hr r e).1; simpa using this
     refine ⟨v, boxed_nc hb hg nc, own_nc ho hg nc, hB.grown hg hB.size (fun r e => by have := hge r e; have := hbel.out.size; omega), ⟨u, boxed_nc hu hg nc⟩, ?_⟩
     exact hm.kept_lt (B := wr.heap.size) (hmk.out.lt) (fun j hj => hg.block j (by have := hu.lt; omega) (fun e => by have := hge j e.symm; omega))
    case hIr =>
     rintro s X Y ⟨v, hb, ho, hB, ⟨u, hu⟩, hm⟩ ⟨u', rfl⟩
     have hne : w1.heap.size ≠ wr.heap.size := by have := hbx.out.lt; omega
     exact ⟨v, hb.other hne _, ho.kept (grownBy_setCell' X _ _) (.inr (hu.not_row (by decide) ho).symm), hB.setCell (p := ⟨wr.heap.size, 0, none⟩) hbel.out.size _, ⟨u', hu.set _⟩, hm.kept (fun j o _ hj hc => (KeepsOthers.setCell X ⟨wr.heap.size, 0, none⟩ (.int .u64 u')).same j o hj hc)⟩
    case h0 =>
     refine ⟨_, hbx.out.alloc _, by rw [List.append_nil]; exact hown.out.alloc _, hbel.out.alloc hbel.out.size _, ⟨_, bN⟩, hmk.out.kept (fun j o _ hj _ => (Below.heap_alloc _ _ _ (Array.getElem?_eq_some_iff.1 hj).1).trans hj)⟩
    case assign =>
     intro l' x' W K hK
     gi_wp2
     exact hK
    case body =>
     rintro l' pre c W ⟨v, hb, ho, hB, ⟨u, hu⟩, hm⟩ hpre
     have hlen2 : ((b ++ vbs (l.take k)) ++ pre).length + 1 ≤ 140737488355328 := by have := hpre.length_le; simp only [List.length_append, List.length_cons, List.length_nil] at *; omega
     obtain ⟨ys, hys⟩ : ∃ ys, (b ++ vbs (l.take k)) ++ pre = ys := ⟨_, rfl⟩
     rw [hys] at ho hlen2
     have HYS := Lib.hid hys
     clear hys
     have hcb := hb.cell
     have hBo := hB
     have hlen3 : ys.length + 1 ≤ 9223372036854775807 := by omega
     have HPX := Lib.hid hpre
     clear hpre
     gi_wp2_with (gi_at_builtin; refine wpListIn_append_own _ rfl _ _ 27 rfl w.heap.size 5 i0 (.int .u8 0) 1 1 Try.underlying27 hi hz0 hz1 hz2 rfl (by decide) _ _ _ rfl (ho.alloc _) ⟨W.heap.size, 0, none⟩ 1 1 [.int .u8 c] rfl rfl (cell_one_new _ _ _) (by simp [Value.oneCell']) (by unfold maxLen; omega) (by omega) (by have := hB.size; simp; omega) ?_; intro v' w2 hown' hgrow _; obtain ⟨g', cap', rfl⟩ := ownsRow_succ hown'; obtain ⟨hv1, hv2, hr2, hk2, hb2⟩ := hb.appended (by decide) ho hB.size HBL.out.size hown' hgrow; have hc1 := hv1.cell; have hf1 := hv1.frozen)
     have hne : wr.heap.size ≠ w1.heap.size := by have := hbx.out.lt; omega
     have hu2 : (w2.setCell ⟨w1.heap.size, 0, none⟩ (.slice (some ⟨g', 0, none⟩) (ys.length + 1) cap')).heap[wr.heap.size]? = W.heap[wr.heap.size]? := by
      rw [Below.heap_setCell _ _ _ _ (by simpa using hne)]
      refine (hgrow.block _ (by have := hu.lt; simp; omega) (hu.not_row (by decide) ho)).trans ?_
      exact Below.heap_alloc _ _ _ hu.lt
     have e1 : (b ++ vbs (l.take k)) ++ (pre ++ [c]) = ys ++ [c] := by rw [← HYS.out]; simp
     refine ⟨hk2.from _, hu2, _, hv2, ?_, hBo.trans hb2, ⟨u, hu2.trans hu⟩, hm.kept (fun j o _ hj hc => hk2.same j o hj hc)⟩
     rw [e1, List.length_append, encs, List.map_append]
     exact hr2
    case done =>
     rintro D xs W hD rfl ⟨v, hb, ho, hB, _, hm⟩ hK
     have hcb := hb.cell
     have HBX := Lib.hid hb
     have HOX := Lib.hid ho
     have HBB := Lib.hid hB
     have HM := Lib.hid hm
     clear hb ho hB hm
     go_wp2
     refine ⟨(HI.out _ _).2 ⟨k + 1, v, _, _, _, _, _, _, _, _, _, _, _, _, _, _, by omega, HBX.out, by rw [HVK.out, ← List.append_assoc]; exact HOX.out, HBB.out, HM.out.push (by simp only [World.size_alloc] at hD; have := hbel.out.size; omega) hK (fun d hd D' hD' => by have := hmk.out.lt d hd D' hD'; simp only [World.size_alloc] at hD; omega), rfl⟩, ?_⟩
     rw [Hμ.out, Hμ.out]
     simp [intOf]; omega
  · obtain rfl : k = l.length := by omega
    have cb := hbx.out.cell
    go_wp2
    refine leaves_marks ds _ hmk.out (fun W' hs => ?_)
    refine ⟨_, results_tmp rfl _ _ _, _, rfl, ?_, hbel.out.trans hs.below⟩
    have := own_move_ hown.out hs.cells
    rw [List.take_length] at this
    exact Kd.R_of_own (by simpa using this) (fun _ _ => trivial)
def quad_Put.f (l0 l1 : List Int) : Option (List Int) := if areU64 l1 = true ∧ (l0 ++ vbs l1).length ≤ 140737488355328 then some (l0 ++ vbs l1) else none
end Go.Proofs.Ytmbnjgnmblgjoaa.Man
end
section
namespace Go.Proofs.Ytmbnjgnmblgjoaa.Man
open Go.RowKit Go.Proofs.YtmbnjgnmblgjoaaW.PrintWords Go.Proofs.YtmbnjgnmblgjoaaW.PrintLast Go.Proofs.YtmbnjgnmblgjoaaW.PrintMore
set_option linter.unusedVariables false
set_option linter.unusedSimpArgs false
def getL : List Int → Nat → Nat → Nat × Nat × Int
 | [], i, _ => (0, i, 3)
 | c :: l, i, n => if (0 < i ∧ c = 0) ∨ (i = 9 ∧ 1 < c) then (0, i, 4) else if c < 128 then (n + c.toNat * 128 ^ i, i + 1, 0) else getL l (i + 1) (n + (c.toNat - 128) * 128 ^ i)
def areBytesN (l : List Int) : Bool := l.all fun c => decide (0 ≤ c ∧ c ≤ 255)
theorem pow128 (i : Nat) : 128 ^ (i + 1) = 128 * 128 ^ i := by rw [Nat.pow_succ, Nat.mul_comm]
theorem getL_vb (m : Nat) : ∀ (i n : Nat) (rest : List Int), (i = 0 ∨ 0 < m) → m * 128 ^ i < 18446744073709551616 → i ≤ 9 → getL (vb m ++ rest) i n = (n + m * 128 ^ i, i + (vb m).length, 0) := by
 induction m using Nat.strongRecOn with
 | _ m ih =>
  intro i n rest h0 hm hi
  by_cases hs : m < 128
  · rw [vb_small hs, List.cons_append, getL, if_neg, if_pos (by omega)]
    · simp
    · rintro (⟨h1, h2⟩ | ⟨h1, h2⟩)
      · rcases h0 with h0 | h0 <;> omega
      · subst h1; omega
  · rw [vb_great hs, List.cons_append, getL, if_neg, if_neg (by omega)]
    · have hi9 : i < 9 := by
       rcases Nat.lt_or_ge i 9 with h | h
       · exact h
       · have : i = 9 := by omega
         subst this; omega
      have hd : m / 128 * 128 ^ (i + 1) ≤ m * 128 ^ i := by
       rw [pow128, ← Nat.mul_assoc]
       exact Nat.mul_le_mul_right _ (by omega)
      rw [ih (m / 128) (by omega) (i + 1) _ rest (.inr (by omega)) (by omega) (by omega)]
      have e : (((m % 128 + 128 : Nat) : Int)).toNat - 128 = m % 128 := by omega
      rw [e]
      refine Prod.ext ?_ (Prod.ext ?_ rfl)
      · show n + m % 128 * 128 ^ i + m / 128 * 128 ^ (i + 1) = n + m * 128 ^ i
        rw [pow128, ← Nat.mul_assoc, Nat.add_assoc, ← Nat.add_mul]
        have : m % 128 + m / 128 * 128 = m := by omega
        rw [this]
      · simp only [List.length_cons]; omega
    · rintro (⟨h1, h2⟩ | ⟨h1, h2⟩)
      · omega
      · subst h1; omega
theorem getL_short (m : Nat) : ∀ (i n j : Nat), (i = 0 ∨ 0 < m) → m * 128 ^ i < 18446744073709551616 → i ≤ 9 → j < (vb m).length → getL ((vb m).take j) i n = (0, i + j, 3) := by
 induction m using Nat.strongRecOn with
 | _ m ih =>
  intro i n j h0 hm hi hj
  cases j with
  | zero => simp [getL]
  | succ j =>
   by_cases hs : m < 128
   · rw [vb_small hs] at hj; simp at hj
   · rw [vb_great hs] at hj ⊢
     rw [List.take_succ_cons, getL, if_neg, if_neg (by omega)]
     · have hi9 : i < 9 := by
        rcases Nat.lt_or_ge i 9 with h | h
        · exact h
        · have : i = 9 := by omega
          subst this; omega
       have hd : m / 128 * 128 ^ (i + 1) ≤ m * 128 ^ i := by
        rw [pow128, ← Nat.mul_assoc]
        exact Nat.mul_le_mul_right _ (by omega)
       rw [ih (m / 128) (by omega) (i + 1) _ j (.inr (by omega)) (by omega) (by omega) (by simpa using hj)]
       refine Prod.ext rfl (Prod.ext ?_ rfl)
       show i + 1 + j = i + (j + 1)
       omega
     · rintro (⟨h1, h2⟩ | ⟨h1, h2⟩)
       · omega
       · subst h1; omega
theorem getL_inv (l : List Int) : ∀ (i n v off : Nat), areBytesN l = true → i ≤ 9 → getL l i n = (v, off, 0) →
 ∃ m, (0 < i → 0 < m) ∧ v = n + m * 128 ^ i ∧ m < 2 * 128 ^ (9 - i) ∧ off = i + (vb m).length ∧ l = vb m ++ l.drop (vb m).length := by
 induction l with
 | nil => intro i n v off _ _ h; simp [getL] at h
 | cons c l ih =>
  intro i n v off hB hi h
  simp only [areBytesN, List.all_cons, Bool.and_eq_true, decide_eq_true_eq] at hB
  obtain ⟨⟨c0, c1⟩, hB⟩ := hB
  rw [getL] at h
  split at h
  · simp at h
  · rename_i hbad
    split at h
    · rename_i hs
      simp only [Prod.mk.injEq, and_true] at h
      obtain ⟨rfl, rfl⟩ := h
      have hv : vb c.toNat = [c] := by rw [vb_small (by omega)]; congr 1; omega
      refine ⟨c.toNat, fun h0 => ?_, rfl, ?_, by rw [hv]; rfl, by rw [hv]; rfl⟩
      · rcases Nat.eq_zero_or_pos c.toNat with h | h
        · exact absurd (.inl ⟨h0, by omega⟩) hbad
        · exact h
      · rcases Nat.lt_or_ge i 9 with h | h
        · have : 9 - i = (8 - i) + 1 := by omega
          rw [this, pow128]
          have : 128 ^ 0 ≤ 128 ^ (8 - i) := Nat.pow_le_pow_right (by decide) (Nat.zero_le _)
          have h2 : 128 * 1 ≤ 128 * 128 ^ (8 - i) := Nat.mul_le_mul_left _ this
          omega
        · obtain rfl : i = 9 := by omega
          have : ¬ 1 < c := fun hc => hbad (.inr ⟨rfl, hc⟩)
          simp; omega
    · rename_i hs
      have hi9 : i < 9 := by
       rcases Nat.lt_or_ge i 9 with h | h
       · exact h
       · exact absurd (.inr ⟨by omega, by omega⟩) hbad
      obtain ⟨m, h0, hv, hm, hoff, hl⟩ := ih (i + 1) _ v off hB (by omega) h
      have hmp := h0 (by omega)
      have hv2 : vb (m * 128 + (c.toNat - 128)) = c :: vb m := by
       rw [vb_great (by omega)]
       congr 1
       · omega
       · congr 1; omega
      refine ⟨m * 128 + (c.toNat - 128), fun _ => by omega, ?_, ?_, ?_, ?_⟩
      · rw [hv, pow128, Nat.add_mul, Nat.mul_assoc]; omega
      · have : 9 - i = (9 - (i + 1)) + 1 := by omega
        rw [this, pow128]; omega
      · rw [hv2, hoff]; simp only [List.length_cons]; omega
      · rw [hv2, List.cons_append, List.length_cons, List.drop_succ_cons]; congr 1
theorem or_shl (n c i : Nat) (hi : i ≤ 9) (hn : n < 128 ^ i) (hc : c * 128 ^ i < 18446744073709551616) : Go.bits .or .u64 (n : Int) ((c * 128 ^ i : Nat) : Int) = ((n + c * 128 ^ i : Nat) : Int) := by
 have hp : (128 : Nat) ^ i = 2 ^ (7 * i) := by rw [Nat.pow_mul]
 rw [hp] at hn hc ⊢
 have hn64 : n < 18446744073709551616 := by
  have : 2 ^ (7 * i) ≤ 2 ^ 63 := Nat.pow_le_pow_right (by decide) (by omega)
  omega
 have h := (bits_nat .u64 64 (by decide) (fun x h0 h1 => by
  have h1' : x < 18446744073709551616 := h1
  rw [IntKind.wrap_u64]; omega) n (c * 2 ^ (7 * i)) (show n < 18446744073709551616 from hn64) (show c * 2 ^ (7 * i) < 18446744073709551616 from hc)).2
 rw [h]
 congr 1
 rw [Nat.or_comm, Nat.mul_comm c, ← Nat.two_pow_add_eq_or_of_lt hn c, Nat.add_comm]
end Go.Proofs.Ytmbnjgnmblgjoaa.Man
end
section
namespace Go.Proofs.YtmbnjgnmblgjoaaW.PrintLast
open Go.Proofs.YtmbnjgnmblgjoaaW.PrintWords (Aside0)
def needsOf (md : Region.Mode) (o : Oper) : List Nat := (o.after.toList.filter (fun e => Region.binds md e)).map (fun e => e.on)
def clashOf (md : Region.Mode) (ops : Array Oper) (i : Nat) (oi : Oper) : List Nat := (List.range ops.size).filter fun j => !(j == i) && match ops[j]? with
 | some oj => !(oj.after.any (fun e => Region.binds md e && e.on == i) || oi.apart ops oj)
 | none => false
def rtab (md : Region.Mode) (ops : Array Oper) : Bool × List (List Nat × List Nat) := (Region.noSelect ops, (List.range ops.size).map fun i => match ops[i]? with
 | some o => (needsOf md o, clashOf md ops i o)
 | none => ([], []))
def readyAt (T : List (List Nat × List Nat)) (l : List Bool) (i : Nat) : Bool := !l.getD i true && match T[i]? with
 | some r => r.1.all (fun j => l.getD j false)
 | none => false
def readyT (T : List (List Nat × List Nat)) (l : List Bool) : List Nat := (List.range T.length).filter (readyAt T l)
def freeT (T : List (List Nat × List Nat)) (l : List Bool) (i : Nat) : Bool := match T[i]? with
 | some r => r.2.all (fun j => l.getD j true)
 | none => false
def closedT (T : List (List Nat × List Nat)) (l : List Bool) : Bool := (List.range T.length).all fun j => !l.getD j false || match T[j]? with
 | some r => r.1.all (fun k => l.getD k false)
 | none => true
def reachT (T : List (List Nat × List Nat)) (i : Nat) : Nat → Nat → Bool
 | 0, _ => false
 | fuel + 1, d => match T[d]? with
  | some r => r.1.any fun j => j == i || reachT T i fuel j
  | none => false
def lastT (T : List (List Nat × List Nat)) (l : List Bool) (ds : List Nat) (i : Nat) : Bool := ds.all fun d => l.getD d true || reachT T i T.length d
section
variable {md : Region.Mode} {ops : Array Oper} {T : Bool × List (List Nat × List Nat)} {l l' li lj lk : Array Bool} {ds : List Nat} {i j k : Nat}
theorem gd (l : Array Bool) (j : Nat) (b : Bool) : l.getD j b = l.toList.getD j b := by simp [Array.getD_eq_getD_getElem?, List.getD_eq_getElem?_getD]
theorem needs_all (o : Oper) (p : Nat → Bool) : o.after.all (fun e => !Region.binds md e || p e.on) = (needsOf md o).all p := by
 unfold needsOf
 rw [← Array.all_toList]
 induction o.after.toList with
 | nil => rfl
 | cons e r ih =>
  rw [List.all_cons, ih, List.filter_cons]
  cases h : Region.binds md e <;> simp
theorem needs_any (o : Oper) (p : Nat → Bool) : o.after.any (fun e => Region.binds md e && p e.on) = (needsOf md o).any p := by
 unfold needsOf
 rw [← Array.any_toList]
 induction o.after.toList with
 | nil => rfl
 | cons e r ih =>
  rw [List.any_cons, ih, List.filter_cons]
  cases h : Region.binds md e <;> simp
theorem rtab_length : (rtab md ops).2.length = ops.size := by simp [rtab]
theorem rtab_some {o : Oper} (h : ops[i]? = some o) : (rtab md ops).2[i]? = some (needsOf md o, clashOf md ops i o) := by
 have hi := (Array.getElem?_eq_some_iff.1 h).1
 unfold rtab
 rw [List.getElem?_map, List.getElem?_range hi, Option.map_some, h]
theorem rtab_none (h : ops[i]? = none) : (rtab md ops).2[i]? = none := by
 have hi : ops.size ≤ i := Array.getElem?_eq_none_iff.1 h
 exact List.getElem?_eq_none (by rw [rtab_length]; exact hi)
theorem readyAt_eq : readyAt (rtab md ops).2 l.toList i = (!l.getD i true && ((ops[i]?).map (·.after.all fun e => !Region.binds md e || l.getD e.on false)).getD false) := by
 unfold readyAt
 rw [gd]
 cases h : ops[i]? with
 | none => rw [rtab_none h]; rfl
 | some o =>
  rw [rtab_some h]
  simp only [Option.map_some, Option.getD_some]
  rw [← needs_all]
  simp only [gd]
theorem ready_eq : Region.ready md ops l = readyT (rtab md ops).2 l.toList := by
 unfold Region.ready readyT
 rw [rtab_length]
 refine List.filter_congr (fun i _ => ?_)
 rw [readyAt_eq]
theorem free_eq : Region.free md ops l i = freeT (rtab md ops).2 l.toList i := by
 unfold Region.free freeT
 cases h : ops[i]? with
 | none => rw [rtab_none h]
 | some oi =>
  rw [rtab_some h]
  simp only [clashOf]
  rw [List.all_filter]
  congr 1
  funext j
  rw [gd]
  cases hj : ops[j]? with
  | none => cases (j == i) <;> cases (l.toList.getD j true) <;> simp
  | some oj =>
   cases (j == i) <;> cases (l.toList.getD j true) <;> cases (oj.after.any (fun e => Region.binds md e && e.on == i) || oi.apart ops oj) <;> simp_all
theorem closed_eq : Region.closedB md ops l = closedT (rtab md ops).2 l.toList := by
 unfold Region.closedB closedT
 rw [rtab_length]
 congr 1
 funext j
 rw [gd]
 cases h : ops[j]? with
 | none => rw [rtab_none h]
 | some o =>
  rw [rtab_some h]
  simp only
  rw [← needs_all]
  simp only [gd]
theorem reach_eq : ∀ (fuel d : Nat), Region.reachB md ops i fuel d = reachT (rtab md ops).2 i fuel d
 | 0, _ => rfl
 | fuel + 1, d => by
  unfold Region.reachB reachT
  cases h : ops[d]? with
  | none => rw [rtab_none h]
  | some o =>
   rw [rtab_some h]
   simp only
   rw [← needs_any]
   congr 1
   funext e
   rw [reach_eq fuel]
theorem last_eq : Region.lastB md ops l ds i = lastT (rtab md ops).2 l.toList ds i := by
 unfold Region.lastB lastT
 rw [rtab_length]
 congr 1
 funext d
 rw [gd, reach_eq]
theorem readyAt_mem (h : readyAt T.2 l.toList i = true) (hT : rtab md ops = T) : (Region.ready md ops l).contains i = true := by
 subst hT
 rw [ready_eq]
 unfold readyT
 rw [List.contains_iff_mem, List.mem_filter, List.mem_range]
 refine ⟨?_, h⟩
 unfold readyAt at h
 rw [Bool.and_eq_true] at h
 cases hq : (rtab md ops).2[i]? with
 | none => rw [hq] at h; simp at h
 | some r => exact (List.getElem?_eq_some_iff.1 hq).1
theorem set_of (h : (l.toList.set i true == l'.toList) = true) : (l.setIfInBounds i true == l') = true := by
 rw [beq_iff_eq] at h ⊢
 apply Array.ext'
 rw [Array.toList_setIfInBounds]
 exact h
def anyT (T : Bool × List (List Nat × List Nat)) (l l' : List Bool) (i : Nat) : Bool := T.1 && freeT T.2 l i && readyAt T.2 l i && (l.set i true == l')
theorem any_of (hT : rtab md ops = T) (h : anyT T l.toList l'.toList i = true) : anyB md ops l l' i = true := by
 simp only [anyT, Bool.and_eq_true] at h
 obtain ⟨⟨⟨h1, h2⟩, h3⟩, h4⟩ := h
 have h5 := readyAt_mem h3 hT
 have h6 := set_of h4
 subst hT
 simp only [anyB, Bool.and_eq_true]
 exact ⟨⟨⟨h1, by rw [free_eq]; exact h2⟩, h5⟩, h6⟩
def takeT (T : Bool × List (List Nat × List Nat)) (ds : List Nat) (l l' : List Bool) (i : Nat) : Bool := T.1 && freeT T.2 l i && readyAt T.2 l i && closedT T.2 l && lastT T.2 l ds i && (l.set i true == l')
theorem take_of (hT : rtab md ops = T) (h : takeT T ds l.toList l'.toList i = true) : takeB md ops ds l l' i = true := by
 simp only [takeT, Bool.and_eq_true] at h
 obtain ⟨⟨⟨⟨⟨h1, h2⟩, h3⟩, h4⟩, h5⟩, h6⟩ := h
 have h7 := readyAt_mem h3 hT
 have h8 := set_of h6
 subst hT
 simp only [takeB, Bool.and_eq_true]
 exact ⟨⟨⟨⟨⟨h1, by rw [free_eq]; exact h2⟩, h7⟩, by rw [closed_eq]; exact h4⟩, by rw [last_eq]; exact h5⟩, h8⟩
theorem one_of (hT : rtab md ops = T) (h : (readyT T.2 l.toList == [i] && l.toList.set i true == l'.toList) = true) : readyB md ops l l' i = true := by
 simp only [Bool.and_eq_true] at h
 obtain ⟨h1, h2⟩ := h
 subst hT
 simp only [readyB, Bool.and_eq_true]
 exact ⟨by rw [ready_eq]; exact h1, set_of h2⟩
theorem done_of (hT : rtab md ops = T) (h : (readyT T.2 l.toList == []) = true) : (Region.ready md ops l == []) = true := by
 subst hT
 rw [ready_eq]
 exact h
def upM (B : List Nat) (d : Nat) : List Nat → Nat
 | [] => 0
 | n :: r => (2 ^ n ||| (if n < d then B.getD n 0 else 0)) ||| upM B d r
def waitsOk (T : List (List Nat × List Nat)) (B : List Nat) : Bool := (List.range T.length).all fun d => match T[d]? with
 | some r => (B.getD d 0 ||| upM B d r.1) == upM B d r.1
 | none => false
theorem upM_bit {B : List Nat} {d i : Nat} : ∀ {ns : List Nat}, (upM B d ns).testBit i = true → ∃ n ∈ ns, n = i ∨ (n < d ∧ (B.getD n 0).testBit i = true)
 | [], h => by simp [upM] at h
 | n :: r, h => by
  unfold upM at h
  rw [Nat.testBit_or, Nat.testBit_or, Bool.or_eq_true, Bool.or_eq_true] at h
  rcases h with (h | h) | h
  · rw [Nat.testBit_two_pow] at h
    exact ⟨n, List.mem_cons_self, .inl (by simpa using h)⟩
  · by_cases hn : n < d
    · rw [if_pos hn] at h
      exact ⟨n, List.mem_cons_self, .inr ⟨hn, h⟩⟩
    · rw [if_neg hn] at h
      simp at h
  · obtain ⟨m, hm, h2⟩ := upM_bit h
    exact ⟨m, List.mem_cons_of_mem _ hm, h2⟩
theorem reach_bit {T : List (List Nat × List Nat)} {B : List Nat} (hB : waitsOk T B = true) : ∀ (fuel d : Nat), d < fuel → d < T.length → (B.getD d 0).testBit i = true → reachT T i fuel d = true
 | 0, d, h, _, _ => by omega
 | fuel + 1, d, h, hd, hb => by
  have h1 := List.all_eq_true.1 hB d (List.mem_range.2 hd)
  cases hr : T[d]? with
  | none => rw [hr] at h1; simp at h1
  | some r =>
   rw [hr] at h1
   simp only [beq_iff_eq] at h1
   have h2 : (upM B d r.1).testBit i = true := by rw [← h1, Nat.testBit_or, hb, Bool.true_or]
   obtain ⟨n, hn, h3⟩ := upM_bit h2
   unfold reachT
   rw [hr]
   simp only
   rw [List.any_eq_true]
   refine ⟨n, hn, ?_⟩
   rcases h3 with rfl | ⟨h4, h5⟩
   · simp
   · rw [reach_bit hB fuel n (by omega) (by omega) h5, Bool.or_true]
def lastW (T : List (List Nat × List Nat)) (B : List Nat) (l : List Bool) (ds : List Nat) (i : Nat) : Bool := ds.all fun d => l.getD d true || (decide (d < T.length) && (B.getD d 0).testBit i)
def takeW (T : Bool × List (List Nat × List Nat)) (B : List Nat) (ds : List Nat) (l l' : List Bool) (i : Nat) : Bool := T.1 && freeT T.2 l i && readyAt T.2 l i && closedT T.2 l && lastW T.2 B l ds i && (l.set i true == l')
theorem take_ofW {B : List Nat} (hT : rtab md ops = T) (hB : waitsOk T.2 B = true) (h : takeW T B ds l.toList l'.toList i = true) : takeB md ops ds l l' i = true := by
 refine take_of hT ?_
 simp only [takeW, takeT, Bool.and_eq_true] at h ⊢
 obtain ⟨⟨⟨⟨⟨h1, h2⟩, h3⟩, h4⟩, h5⟩, h6⟩ := h
 refine ⟨⟨⟨⟨⟨h1, h2⟩, h3⟩, h4⟩, ?_⟩, h6⟩
 unfold lastW at h5
 unfold lastT
 rw [List.all_eq_true] at h5 ⊢
 intro d hd
 have h7 := h5 d hd
 rw [Bool.or_eq_true, Bool.and_eq_true, decide_eq_true_eq] at h7
 rcases h7 with h7 | ⟨h8, h9⟩
 · rw [h7, Bool.true_or]
 · rw [reach_bit hB _ d h8 h8 h9, Bool.or_true]
theorem with_tabW {P : Program} {Q : Exit → Act → World → Prop} {S : World → Prop} {n : Nat} {a : Act} {w : World} {B : List Nat} (hT : rtab md ops = T) (hB : waitsOk T.2 B = true) (h : Aside0 (rtab md ops = T) → Aside0 (waitsOk T.2 B = true) → wpAnyLast P md ops Q S ds n l a w) : wpAnyLast P md ops Q S ds n l a w := h ⟨hT⟩ ⟨hB⟩
end
def opsIn : Code → Nat → Option (Array Oper)
 | .region id ops _, k => if id == k then some ops else none
 | .seq a b, k => match opsIn a k with
  | some o => some o
  | none => opsIn b k
 | .cond _ a b, k => match opsIn a k with
  | some o => some o
  | none => opsIn b k
 | .block _ c, k => opsIn c k
 | .loop c, k => opsIn c k
 | .scope c, k => opsIn c k
 | .rangeFunc _ _ a b, k => match opsIn a k with
  | some o => some o
  | none => opsIn b k
 | _, _ => none
def opsOf (f : Func) (k : Nat) : Array Oper := ((f.body.bind fun c => opsIn c k)).getD #[]
end Go.Proofs.YtmbnjgnmblgjoaaW.PrintLast
end
section
namespace Go.Proofs.YtmbnjgnmblgjoaaW.PrintLast
section
variable {P : Program} {ops : Array Oper} {Q : Exit → Act → World → Prop} {md : Region.Mode} {S : World → Prop} {ds : List Nat} {T : Bool × List (List Nat × List Nat)}
end
end Go.Proofs.YtmbnjgnmblgjoaaW.PrintLast
end
section
namespace Go.Proofs.Ytmbnjgnmblgjoaa.Man
open Go.RowKit Go.Proofs.YtmbnjgnmblgjoaaW.PrintWords Go.Proofs.YtmbnjgnmblgjoaaW.PrintLast Go.Proofs.YtmbnjgnmblgjoaaW.PrintMore
set_option linter.unusedVariables false
set_option linter.unusedSimpArgs false
def getF (b : List Int) (at_ : Int) : Int × Int × Int :=
 if at_ < 0 ∨ (b.length : Int) < at_ then (0, 0, 1) else (((getL (b.drop at_.toNat) 0 0).1 : Int), at_ + ((getL (b.drop at_.toNat) 0 0).2.1 : Int), (getL (b.drop at_.toNat) 0 0).2.2)
theorem and127 (c : Int) (h0 : 0 ≤ c) (h1 : c ≤ 255) : Go.bits .and .u8 c 127 = c % 128 :=
 bits_mask .u8 8 (by decide) wraps_u8 7 (by decide) c h0 (by simp; omega)
theorem getN_get {l : List Int} (h : areBytesN l = true) {k : Nat} (hk : k < l.length) : 0 ≤ l.getD k 0 ∧ l.getD k 0 ≤ 255 := by
 unfold areBytesN at h
 rw [List.all_eq_true] at h
 have := h (l.getD k 0) (by rw [show l.getD k 0 = l[k] by simp [List.getD, hk]]; exact List.getElem_mem hk)
 simpa using this
theorem areBytesN_drop {l : List Int} (h : areBytesN l = true) (k : Nat) : areBytesN (l.drop k) = true := by
 unfold areBytesN at *
 rw [List.all_eq_true] at *
 exact fun x hx => h x (List.mem_of_mem_drop hx)
theorem shl_wrap (c : Int) (m i : Nat) (h : c = m) (hb : m * 128 ^ i < 18446744073709551616) : IntKind.u64.wrap (c * 2 ^ (7 * i)) = ((m * 128 ^ i : Nat) : Int) := by
 have e : c * 2 ^ (7 * i) = ((m * 128 ^ i : Nat) : Int) := by
  rw [h, Int.pow_mul, Int.natCast_mul, Int.natCast_pow]; rfl
 rw [e, IntKind.wrap_u64]
 omega
theorem room_at (m i : Nat) (hi : i < 9) (hm : m < 128) : m * 128 ^ i < 18446744073709551616 := by
 have h1 : 128 ^ (i + 1) ≤ 128 ^ 9 := Nat.pow_le_pow_right (by decide) hi
 have h2 : (128 : Nat) ^ 9 = 9223372036854775808 := by decide
 have h3 : (m + 1) * 128 ^ i ≤ 128 * 128 ^ i := Nat.mul_le_mul_right _ hm
 rw [pow128] at h1
 rw [Nat.add_mul] at h3
 omega
set_option maxRecDepth 100000 in
set_option maxHeartbeats 4000000 in
theorem get_at (A0 : Option Addr) (c0 : Nat) (b : List Int) (p : Nat) (w : World) (hr : Kd.C (Kd.int .u8) w A0 b.length b) (hc : b.length ≤ c0) (hB : areBytesN b = true) (hp : p ≤ b.length) :
 Calls Try.prog 91 #[.slice A0 b.length c0, .int .i64 p] w fun e w' =>
  e = .returned (.tuple #[.int .u64 ((getL (b.drop p) 0 0).1 : Int), .int .i64 ((p : Int) + ((getL (b.drop p) 0 0).2.1 : Int)), .int .i64 (getL (b.drop p) 0 0).2.2]) ∧ w = w' := by
 have info5 : (Try.prog.info? 5).map (fun i => (i.zero, i.size, i.bytes)) = some (some (.int .u8 0), 1, 1) := by kernel_rfl
 obtain ⟨i0, hi0, _, hsz, _⟩ := info_parts info5
 obtain ⟨A8, hcut, hA8, hC8⟩ := print_drop_of (P := Try.prog) (Value.int .u8) 0 27 5 .i64 Try.underlying27 hi0 hsz A0 c0 b (p : Int) (by omega) (by omega) hc
 have hl0 := Kd.C_of_reads (h1 := fun _ => rfl) (hA8 _ (Kd.reads_of_C hr))
 have hB8 := areBytesN_drop hB p
 rw [Int.toNat_natCast] at hl0 hcut
 have hlen : b.length ≤ 9223372036854775807 := hr.2.1
 have hdl : (b.drop p).length = b.length - p := List.length_drop
 obtain ⟨l, hl⟩ : ∃ l, b.drop p = l := ⟨_, rfl⟩
 rw [hl] at hl0 hB8 hdl hcut ⊢
 have HLD := Lib.hid hl
 have HR := Lib.hid hl0
 have HB := Lib.hid hB8
 have HD := Lib.hid hdl
 have hll : (p : Int) + l.length ≤ 9223372036854775807 := by omega
 have hn1 : ¬ ((p : Int) < 0) := by omega
 clear hl0 hB8 hl hA8 hr hB hi0 hsz info5
 obtain ⟨R, hR⟩ : ∃ R, getL l 0 0 = R := ⟨_, rfl⟩
 rw [hR]
 have HRes := Lib.hid hR
 clear hR
 go_enter Try.func91, Try.ntmps91
 go_wp2
 go_loop [7, 8, 9, 22, 27, 43] (fun v7 _ _ v22 _ _ => ∃ (i n : Nat), v7 = .int .u64 (n : Int) ∧ v22 = .int .i64 (i : Int) ∧ i ≤ b.length - p ∧ i ≤ 9 ∧ Hid (n < 128 ^ i) ∧ Hid (getL (l.drop i) i n = R))
  (fun _ _ _ v22 _ _ => b.length - p - (intOf v22).toNat)
 case atStart => exact ⟨0, 0, rfl, rfl, Nat.zero_le _, by decide, Lib.hid (by decide), Lib.hid (by rw [List.drop_zero]; exact HRes.out)⟩
 case round =>
  clear HRes
  obtain ⟨i, n, rfl, rfl, hi, hi9, hn, hg⟩ := hrel
  by_cases hlt : i < b.length - p
  · have hltl : i < l.length := by rw [HD.out]; exact hlt
    obtain ⟨ad, rfl, hcell⟩ := Kd.at_int HR.out (i : Int) (by omega) (by omega)
    have hrd : rd l (i : Int) = l.getD i 0 := rfl
    rw [hrd, Int.toNat_natCast] at hcell
    obtain ⟨hc0, hc1⟩ := getN_get HB.out hltl
    have hgd : l.drop i = l.getD i 0 :: l.drop (i + 1) := by rw [List.drop_eq_getElem_cons hltl]; simp [List.getD, hltl]
    have hg2 := hg.out
    rw [hgd, getL] at hg2
    obtain ⟨c, hcv⟩ : ∃ c, l.getD i 0 = c := ⟨_, rfl⟩
    rw [hcv] at hcell hc0 hc1 hg2
    have hpi : (p : Int) + i < 9223372036854775807 := by omega
    have HG := Lib.hid hg2
    clear hrd hgd hg2 hcv hg hltl
    by_cases hbad : (0 < i ∧ c = 0) ∨ (i = 9 ∧ 1 < c)
    · have hR : R = (0, i, 4) := by have := HG.out; rw [if_pos hbad] at this; exact this.symm
      subst hR
      rcases hbad with ⟨h0, rfl⟩ | ⟨h9, h1⟩
      · go_wp2
        go_ret3
        exact ⟨by simp, rfl⟩
      · have hz : (c == 0) = false := by rw [beq_eq_false_iff_ne]; omega
        have h0 : 0 < i := by omega
        have h9' : ((i : Int) == 9) = true := by rw [beq_iff_eq]; omega
        clear h9
        go_wp2
        go_ret3
        exact ⟨by simp, rfl⟩
    · have hg3 := HG.out
      rw [if_neg hbad] at hg3
      have HG3 := Lib.hid hg3
      clear hg3 HG
      have hq : i = 0 ∨ (0 < i ∧ i < 9 ∧ c ≠ 0) ∨ (i = 9 ∧ c = 1) := by omega
      by_cases hs : c < 128
      · have hR : R = (n + c.toNat * 128 ^ i, i + 1, 0) := by have := HG3.out; rw [if_pos hs] at this; exact this.symm
        have hroom : c.toNat * 128 ^ i < 18446744073709551616 := by
         rcases hq with rfl | ⟨_, h, _⟩ | ⟨rfl, rfl⟩
         · exact room_at _ _ (by decide) (by omega)
         · exact room_at _ _ h (by omega)
         · decide
        have hm := shl_wrap c c.toNat i (by omega) hroom
        have hor := or_shl n c.toNat i hi9 hn.out hroom
        obtain ⟨y, hy⟩ : ∃ y : Nat, c.toNat * 128 ^ i = y := ⟨_, rfl⟩
        rw [hy] at hm hor hR
        clear hy hroom
        subst hR
        clear hpi
        rcases hq with h0 | ⟨h1, h2, h3⟩ | ⟨h9, hc1'⟩
        · have h0' : i ≤ 0 := by omega
          have h9 : ((i : Int) == 9) = false := by rw [beq_eq_false_iff_ne]; omega
          clear h0
          go_wp2
          go_ret3
          exact ⟨by simp; omega, rfl⟩
        · have hz : (c == 0) = false := by rw [beq_eq_false_iff_ne]; omega
          have h9 : ((i : Int) == 9) = false := by rw [beq_eq_false_iff_ne]; omega
          clear h2 h3
          go_wp2
          go_ret3
          exact ⟨by simp; omega, rfl⟩
        · have h0 : 0 < i := by omega
          have h9' : ((i : Int) == 9) = true := by rw [beq_iff_eq]; omega
          have hz : (c == 0) = false := by rw [beq_eq_false_iff_ne]; omega
          have hc2 : c ≤ 1 := by omega
          clear h9 hc1'
          go_wp2
          go_ret3
          exact ⟨by simp; omega, rfl⟩
      · have hi8 : i < 9 := by omega
        have hand := and127 c hc0 hc1
        have hroom : (c.toNat - 128) * 128 ^ i < 18446744073709551616 := room_at _ _ hi8 (by omega)
        have hm := shl_wrap (c % 128) (c.toNat - 128) i (by omega) hroom
        have hor := or_shl n (c.toNat - 128) i hi9 hn.out hroom
        have hnext : n + (c.toNat - 128) * 128 ^ i < 128 ^ (i + 1) := by
         have h1 := hn.out
         have h2 : (c.toNat - 128 + 1) * 128 ^ i ≤ 128 * 128 ^ i := Nat.mul_le_mul_right _ (by omega)
         rw [pow128, Nat.add_mul] at *
         omega
        have hg4 := HG3.out
        rw [if_neg hs] at hg4
        obtain ⟨y, hy⟩ : ∃ y : Nat, (c.toNat - 128) * 128 ^ i = y := ⟨_, rfl⟩
        rw [hy] at hm hor hnext hg4
        have HNX := Lib.hid hnext
        have HG4 := Lib.hid hg4
        clear hy hnext hg4 hroom hpi
        rcases hq with h0 | ⟨h1, h2, h3⟩ | ⟨rfl, rfl⟩
        · have h0' : i ≤ 0 := by omega
          have h9 : ((i : Int) == 9) = false := by rw [beq_eq_false_iff_ne]; omega
          clear h0
          go_wp2
          go_round
          case rel => exact ⟨i + 1, n + y, by simp, by simp, by omega, by omega, HNX, HG4⟩
          case measure => simp [intOf]; omega
        · have hz : (c == 0) = false := by rw [beq_eq_false_iff_ne]; omega
          have h9 : ((i : Int) == 9) = false := by rw [beq_eq_false_iff_ne]; omega
          clear h3
          go_wp2
          go_round
          case rel => exact ⟨i + 1, n + y, by simp, by simp, by omega, by omega, HNX, HG4⟩
          case measure => simp [intOf]; omega
        · omega
  · obtain rfl : i = b.length - p := by omega
    go_wp2
    go_ret3
    have := hg.out
    rw [← HD.out, List.drop_length, getL] at this
    subst this
    refine ⟨?_, rfl⟩
    have e : (b.length : Int) = (p : Int) + (l.length : Int) := by rw [HD.out]; omega
    simp [e]
set_option maxRecDepth 100000 in
set_option maxHeartbeats 4000000 in
theorem get_bad (A0 : Option Addr) (c0 : Nat) (b : List Int) (p : Int) (w : World) (hp : p < 0 ∨ (b.length : Int) < p) :
 Calls Try.prog 91 #[.slice A0 b.length c0, .int .i64 p] w fun e w' => e = .returned (.tuple #[.int .u64 0, .int .i64 0, .int .i64 1]) ∧ w = w' := by
 by_cases h0 : p < 0
 · clear hp
   go_enter Try.func91, Try.ntmps91
   go_wp2
   go_ret3
   exact ⟨rfl, rfl⟩
 · have h1 : 0 ≤ p := by omega
   have h2 : (b.length : Int) < p := by omega
   clear hp h0
   go_enter Try.func91, Try.ntmps91
   go_wp2
   go_ret3
   exact ⟨rfl, rfl⟩
theorem get_any (A0 : Option Addr) (c0 : Nat) (b : List Int) (p : Int) (w : World) (hr : Kd.C (Kd.int .u8) w A0 b.length b) (hc : b.length ≤ c0) (hB : areBytesN b = true) :
 Calls Try.prog 91 #[.slice A0 b.length c0, .int .i64 p] w fun e w' => e = .returned (.tuple #[.int .u64 (getF b p).1, .int .i64 (getF b p).2.1, .int .i64 (getF b p).2.2]) ∧ w = w' := by
 unfold getF
 by_cases h : p < 0 ∨ (b.length : Int) < p
 · rw [if_pos h]; exact get_bad A0 c0 b p w h
 · rw [if_neg h]
   obtain ⟨q, rfl⟩ : ∃ q : Nat, p = (q : Int) := ⟨p.toNat, by omega⟩
   exact get_at A0 c0 b q w hr hc hB (by omega)
def quad_Get.f (l0 : List Int) (a1 : Int) : Option (Int × Int × Int) := if areBytesN l0 = true then some (getF l0 a1) else none
end Go.Proofs.Ytmbnjgnmblgjoaa.Man
end
section
namespace Go.Proofs.Ytmbnjgnmblgjoaa.Man
open Go.RowKit Go.Proofs.YtmbnjgnmblgjoaaW.PrintWords Go.Proofs.YtmbnjgnmblgjoaaW.PrintLast
set_option linter.unusedVariables false
set_option linter.unusedSimpArgs false
def areBytes (l : List Int) : Bool := l.all fun c => decide (0 ≤ c ∧ c ≤ 255)
theorem getD_lt {l : List Int} {k : Nat} (hk : k < l.length) : l.getD k 0 = l[k] := by simp [List.getD, hk]
theorem areBytes_get {l : List Int} (h : areBytes l = true) {k : Nat} (hk : k < l.length) : 0 ≤ l.getD k 0 ∧ l.getD k 0 ≤ 255 := by
 unfold areBytes at h
 rw [List.all_eq_true] at h
 have := h (l.getD k 0) (by rw [getD_lt hk]; exact List.getElem_mem hk)
 simpa using this
def mstep (x y : Int) (i : Nat) (c : Int) : Int × Int :=
 if i % 1000 = 999 then ((x + c) % 65521, (y + (x + c)) % 65521) else (x + c, y + (x + c))
def mrun : List Int → Nat → Int → Int → Int × Int
 | [], _, x, y => (x, y)
 | c :: l, i, x, y => mrun l (i + 1) (mstep x y i c).1 (mstep x y i c).2
theorem mrun_at {l : List Int} {k : Nat} (hk : k < l.length) (x y : Int) : mrun (l.drop k) k x y = mrun (l.drop (k + 1)) (k + 1) (mstep x y k (l.getD k 0)).1 (mstep x y k (l.getD k 0)).2 := by
 rw [List.drop_eq_getElem_cons hk, mrun, getD_lt hk]
def mbd (k : Nat) (x y : Int) : Prop := 0 ≤ x ∧ x ≤ 65520 + 255 * ((k % 1000 : Nat) : Int) ∧ 0 ≤ y ∧ y ≤ 65520 + 330000 * ((k % 1000 : Nat) : Int)
theorem mbd_next {k : Nat} {x y c : Int} (h : mbd k x y) (h0 : 0 ≤ c) (h1 : c ≤ 255) : mbd (k + 1) (mstep x y k c).1 (mstep x y k c).2 := by
 unfold mbd at *
 unfold mstep
 split
 · have : (k + 1) % 1000 = 0 := by omega
   simp only [this]; omega
 · have : ((k + 1) % 1000 : Nat) = k % 1000 + 1 := by omega
   simp only [this]; omega
set_option maxHeartbeats 800000 in
theorem add_any (c x y : Int) (bx by_ : Nat) (w : World) (hne : bx ≠ by_) (hx : Boxed w bx 90 (.int .u64 x)) (hy : Boxed w by_ 90 (.int .u64 y))
 (h0 : 0 ≤ x) (h1 : x ≤ 1000000) (h2 : 0 ≤ y) (h3 : y ≤ 1000000000) (h4 : 0 ≤ c) (h5 : c ≤ 255) :
 Calls Try.prog 161 #[.int .u8 c, .pointer (some ⟨bx, 0, none⟩), .pointer (some ⟨by_, 0, none⟩)] w fun e w' =>
  e = .returned (.tuple #[]) ∧ w' = (w.setCell ⟨bx, 0, none⟩ (.int .u64 (x + c))).setCell ⟨by_, 0, none⟩ (.int .u64 (y + (x + c))) := by
 have cx := hx.cell
 have fx := hx.frozen
 have cy := hy.cell
 have fy := hy.frozen
 go_enter Try.func161, Try.ntmps161
 go_wp2
 go_end0
 exact ⟨rfl, rfl⟩
def partA (s : Int) : Int := (s % 65536) % 65521
def partB (s : Int) : Int := (s / 65536) % 65521
def joinP (a b : Int) : Int := (b % 65521) * 65536 + a % 65521
theorem and_low (s : Int) (h0 : 0 ≤ s) (h1 : s < 4294967296) : Go.bits .and .u32 s 65535 = s % 65536 :=
 bits_mask .u32 32 (by decide) (fun n a b => by rw [IntKind.wrap_u32]; omega) 16 (by decide) s h0 h1
theorem or_join (b a : Int) (h0 : 0 ≤ b) (h1 : b < 65536) (h2 : 0 ≤ a) (h3 : a < 65536) : Go.bits .or .u64 (b * 65536) a = b * 65536 + a := by
 refine bits_join .u64 32 (by decide) (fun n a b => ?_) 16 (b * 65536) a ?_ ?_ ?_ h2 ?_ ?_
 · have b' : n < 4294967296 := b
   rw [IntKind.wrap_u64]; omega
 · omega
 · show b * 65536 % 65536 = 0
   omega
 · show b * 65536 < 4294967296
   omega
 · exact h3
 · show a < 4294967296
   omega
theorem rest32 (a : Int) (w : World) (h0 : 0 ≤ a) (h1 : a < 4294967296) :
 Calls Try.prog 167 #[.int .u32 a] w fun e w' => e = .returned (.int .u64 (a % 65521)) ∧ w = w' := by
 go_enter Try.func167, Try.ntmps167
 go_wp2
 go_ret
 exact ⟨rfl, rfl⟩
theorem rest64 (a : Int) (w : World) (h0 : 0 ≤ a) (h1 : a < 18446744073709551616) :
 Calls Try.prog 162 #[.int .u64 a] w fun e w' => e = .returned (.int .u64 (a % 65521)) ∧ w = w' := by
 go_enter Try.func162, Try.ntmps162
 go_wp2
 go_ret
 exact ⟨rfl, rfl⟩
theorem parts_any (s : Int) (w : World) (h0 : 0 ≤ s) (h1 : s < 4294967296) :
 Calls Try.prog 160 #[.int .u32 s] w fun e w' => e = .returned (.tuple #[.int .u64 (partA s), .int .u64 (partB s)]) ∧ w = w' := by
 have e1 := and_low s h0 h1
 go_enter Try.func160, Try.ntmps160
 go_wp2_with (go_at_call 167; refine (rest32 _ _ (by omega) (by omega)).mono ?_; rintro e w' ⟨rfl, rfl⟩)
 go_ret2
 exact ⟨rfl, rfl⟩
theorem join_any (a b : Int) (w : World) (h0 : 0 ≤ a) (h1 : a < 18446744073709551616) (h2 : 0 ≤ b) (h3 : b < 18446744073709551616) :
 Calls Try.prog 163 #[.int .u64 a, .int .u64 b] w fun e w' => e = .returned (.int .u32 (joinP a b)) ∧ w = w' := by
 have e1 := or_join (b % 65521) (a % 65521) (by omega) (by omega) (by omega) (by omega)
 go_enter Try.func163, Try.ntmps163
 go_wp2_with (go_at_call 162; refine (rest64 _ _ (by omega) (by omega)).mono ?_; rintro e w' ⟨rfl, rfl⟩)
 go_ret
 exact ⟨by unfold joinP; rfl, rfl⟩
def moreF (s : Int) (l : List Int) : Int := joinP (mrun l 0 (partA s) (partB s)).1 (mrun l 0 (partA s) (partB s)).2
set_option maxHeartbeats 4000000 in
set_option maxRecDepth 100000 in
theorem more_any (s : Int) (A : Option Addr) (c : Nat) (l : List Int) (w : World) (hr : Kd.C (Kd.int .u8) w A l.length l) (hB : areBytes l = true) (h0 : 0 ≤ s) (h1 : s < 4294967296) :
 Calls Try.prog 142 #[.int .u32 s, .slice A l.length c] w fun e w' => e = .returned (.int .u32 (moreF s l)) ∧ Below w.heap.size w w' := by
 have hmf : ∀ (fn : Fn) (first cap : Array Value) (w : World), (Instr.makeFunc fn first cap).run Try.prog w = .ok (.func fn first cap) w := fun _ _ _ _ => rfl
 have hlen : l.length ≤ 9223372036854775807 := hr.2.1
 have HR := Lib.hid hr
 have HB := Lib.hid hB
 clear hr hB
 go_enter Try.func142, Try.ntmps142
 go_wp2_with (go_at_call 160; refine (parts_any _ _ (by omega) (by omega)).mono ?_; rintro e w' ⟨rfl, rfl⟩)
 have hs0 : mbd 0 (partA s) (partB s) := by unfold mbd partA partB; omega
 go_loopw [18] (fun i wr => ∃ (k : Nat) (x y : Int), k ≤ l.length ∧ i = .int .i64 k ∧ mbd k x y ∧ Hid (mrun (l.drop k) k x y = mrun l 0 (partA s) (partB s)) ∧ Boxed wr w.heap.size 90 (.int .u64 x) ∧ Boxed wr (w.heap.size + 1) 90 (.int .u64 y) ∧ Below w.heap.size w wr)
  (fun i _ => l.length - (intOf i).toNat)
 case atStart =>
  refine ⟨0, _, _, Nat.zero_le _, rfl, hs0, Lib.hid rfl, (Boxed.new w _ _).alloc _, ?_, ((Below.refl _ _).alloc (Nat.le_refl _) _).alloc (by simp) _⟩
  have := Boxed.new (w.alloc (.cells #[.int .u64 (partA s)] 90)) 90 (.int .u64 (partB s))
  rwa [World.size_alloc] at this
 case round =>
  clear hs0
  obtain ⟨k, x, y, hk, rfl, hbd, hrun, hx, hy, hbel⟩ := hrel
  have cx := hx.cell
  have fx := hx.frozen
  have cy := hy.cell
  have fy := hy.frozen
  by_cases hlt : k < l.length
  · obtain ⟨ad, rfl, hcell⟩ := Kd.at_int (Kd.C_below HR.out (by simpa using hbel)) (k : Int) (by omega) (by omega)
    obtain ⟨hc0, hc1⟩ := areBytes_get HB.out hlt
    have hrd : rd l (k : Int) = l.getD k 0 := rfl
    rw [hrd, Int.toNat_natCast] at hcell
    have hn := mbd_next hbd hc0 hc1
    have hrn := mrun_at hlt x y
    obtain ⟨v, hv⟩ : ∃ v, l.getD k 0 = v := ⟨_, rfl⟩
    rw [hv] at hcell hc0 hc1 hn hrn
    clear hrd hv
    have hx0 : 0 ≤ x ∧ x ≤ 1000000 ∧ 0 ≤ y ∧ y ≤ 1000000000 := by unfold mbd at hbd; omega
    obtain ⟨hx0, hx1, hy0, hy1⟩ := hx0
    have HN := Lib.hid hn
    have HRN := Lib.hid hrn
    clear hn hrn hbd
    by_cases h9 : k % 1000 = 999
    · have hd9 : ((k : Int) % 1000 == 999) = true := by rw [beq_iff_eq]; omega
      go_wp2_with (go_at_call 161; refine (add_any _ _ _ _ _ _ (by omega) hx hy hx0 hx1 hy0 hy1 hc0 hc1).mono ?_; rintro e w' ⟨rfl, rfl⟩)
      have hnn : w.heap.size ≠ w.heap.size + 1 := by omega
      have ix := (hx.set (.int .u64 (x + v))).other hnn (.int .u64 (y + (x + v)))
      have iy := (hy.other hnn.symm (.int .u64 (x + v))).set (.int .u64 (y + (x + v)))
      have hbel2 := (hbel.setCell (p := ⟨w.heap.size, 0, none⟩) (Nat.le_refl _) (.int .u64 (x + v))).setCell (p := ⟨w.heap.size + 1, 0, none⟩) (by simp) (.int .u64 (y + (x + v)))
      obtain ⟨W2, hW2⟩ : ∃ W2, (wr.setCell ⟨w.heap.size, 0, none⟩ (.int .u64 (x + v))).setCell ⟨w.heap.size + 1, 0, none⟩ (.int .u64 (y + (x + v))) = W2 := ⟨_, rfl⟩
      rw [hW2] at ix iy hbel2 ⊢
      clear hW2 cx cy fx fy hx hy hbel
      have cx := ix.cell
      have fx := ix.frozen
      have cy := iy.cell
      have fy := iy.frozen
      go_still_tail 4, (by kernel_rfl)
      still_call ((rest64 _ _ (by omega) (by omega)).mono (fun _ _ h => ⟨h.1, h.2.symm⟩))
      repeat still_step
      still_call ((rest64 _ _ (by omega) (by omega)).mono (fun _ _ h => ⟨h.1, h.2.symm⟩))
      refine wpStill_nil ?_
      change wpList _ _ _ _ _ W2.drew
      have hbel3 := hbel2.drew
      have jx : Boxed W2.drew w.heap.size 90 (.int .u64 (x + v)) := ix
      have jy : Boxed W2.drew (w.heap.size + 1) 90 (.int .u64 (y + (x + v))) := iy
      clear cx cy fx fy ix iy hbel2
      generalize W2.drew = W3 at *
      have cx := jx.cell
      have fx := jx.frozen
      have cy := jy.cell
      have fy := jy.frozen
      go_wp2
      go_roundw
      case rel =>
       refine ⟨k + 1, _, _, by omega, by go_num, HN.out, Lib.hid (HRN.out.symm.trans hrun.out), ?_, ?_, (hbel3.setCell (Nat.le_refl _) _).setCell (by simp) _⟩
       · rw [mstep, if_pos h9]; exact (jx.set _).other hnn _
       · rw [mstep, if_pos h9]; exact (jy.other hnn.symm _).set _
      case measure => simp [intOf]; omega
    · have hd9 : ((k : Int) % 1000 == 999) = false := by rw [beq_eq_false_iff_ne]; omega
      go_wp2_with (go_at_call 161; refine (add_any _ _ _ _ _ _ (by omega) hx hy hx0 hx1 hy0 hy1 hc0 hc1).mono ?_; rintro e w' ⟨rfl, rfl⟩)
      go_roundw
      case rel =>
       have hnn : w.heap.size ≠ w.heap.size + 1 := by omega
       refine ⟨k + 1, _, _, by omega, by go_num, HN.out, Lib.hid (HRN.out.symm.trans hrun.out), ?_, ?_, (hbel.setCell (Nat.le_refl _) _).setCell (by simp) _⟩
       · rw [mstep, if_neg h9]; exact (hx.set _).other hnn _
       · rw [mstep, if_neg h9]; exact (hy.other hnn.symm _).set _
      case measure => simp [intOf]; omega
  · obtain rfl : k = l.length := by omega
    go_wp2_with (go_at_call 163; refine (join_any _ _ _ (by unfold mbd at hbd; omega) (by unfold mbd at hbd; omega) (by unfold mbd at hbd; omega) (by unfold mbd at hbd; omega)).mono ?_; rintro e w' ⟨rfl, rfl⟩)
    go_ret
    refine ⟨?_, hbel⟩
    have := hrun.out
    rw [List.drop_length] at this
    unfold moreF
    rw [← this]; rfl
def sum_More.f (a0 : Int) (l1 : List Int) : Option Int := if areBytes l1 = true ∧ 0 ≤ a0 ∧ a0 < 4294967296 then some (moreF a0 l1) else none
end Go.Proofs.Ytmbnjgnmblgjoaa.Man
end
section
namespace Go.Proofs.Ytmbnjgnmblgjoaa.Man
open Go.RowKit Go.Proofs.YtmbnjgnmblgjoaaW.PrintWords Go.Proofs.YtmbnjgnmblgjoaaW.PrintLast
set_option linter.unusedVariables false
set_option linter.unusedSimpArgs false
def U : List Int → Int → Int → Int × Int
 | [], x, y => (x, y)
 | c :: l, x, y => U l (x + c) (y + (x + c))
def S : List Int → Int
 | [] => 0
 | c :: l => c + S l
def Eqp (a b : Int) : Prop := a % 65521 = b % 65521
theorem Eqp.refl (a : Int) : Eqp a a := rfl
theorem Eqp.trans {a b c : Int} (h : Eqp a b) (k : Eqp b c) : Eqp a c := Eq.trans h k
theorem Eqp.add {a b c d : Int} (h : Eqp a b) (k : Eqp c d) : Eqp (a + c) (b + d) := by unfold Eqp at *; omega
theorem Eqp.mod (a : Int) : Eqp (a % 65521) a := by unfold Eqp; omega
theorem U_eqp (l : List Int) : ∀ x y x' y', Eqp x x' → Eqp y y' → Eqp (U l x y).1 (U l x' y').1 ∧ Eqp (U l x y).2 (U l x' y').2 := by
 induction l with
 | nil => intro x y x' y' h k; exact ⟨h, k⟩
 | cons c l ih => intro x y x' y' h k; exact ih _ _ _ _ (h.add (Eqp.refl c)) (k.add (h.add (Eqp.refl c)))
theorem mrun_eqp (l : List Int) : ∀ i x y x' y', Eqp x x' → Eqp y y' → Eqp (mrun l i x y).1 (U l x' y').1 ∧ Eqp (mrun l i x y).2 (U l x' y').2 := by
 induction l with
 | nil => intro i x y x' y' h k; exact ⟨h, k⟩
 | cons c l ih =>
  intro i x y x' y' h k
  rw [mrun, U]
  have e : Eqp (mstep x y i c).1 (x' + c) ∧ Eqp (mstep x y i c).2 (y' + (x' + c)) := by
   unfold mstep
   split
   · exact ⟨(Eqp.mod _).trans (h.add (Eqp.refl c)), (Eqp.mod _).trans (k.add (h.add (Eqp.refl c)))⟩
   · exact ⟨h.add (Eqp.refl c), k.add (h.add (Eqp.refl c))⟩
  exact ih _ _ _ _ _ e.1 e.2
theorem joinP_eqp {a b a' b' : Int} (h : Eqp a a') (k : Eqp b b') : joinP a b = joinP a' b' := by unfold joinP; rw [show a % 65521 = a' % 65521 from h, show b % 65521 = b' % 65521 from k]
theorem moreF_eq (s : Int) (l : List Int) : moreF s l = joinP (U l (partA s) (partB s)).1 (U l (partA s) (partB s)).2 := by
 unfold moreF
 have := mrun_eqp l 0 _ _ _ _ (Eqp.refl (partA s)) (Eqp.refl (partB s))
 exact joinP_eqp this.1 this.2
theorem joinP_range (a b : Int) : 0 ≤ joinP a b ∧ joinP a b < 4294967296 := by unfold joinP; omega
theorem moreF_range (s : Int) (l : List Int) : 0 ≤ moreF s l ∧ moreF s l < 4294967296 := joinP_range _ _
end Go.Proofs.Ytmbnjgnmblgjoaa.Man
end
section
namespace Go.Proofs.Ytmbnjgnmblgjoaa.Man
open Go.RowKit Go.Proofs.YtmbnjgnmblgjoaaW.PrintWords Go.Proofs.YtmbnjgnmblgjoaaW.PrintLast Go.Proofs.YtmbnjgnmblgjoaaW.PrintMore
set_option linter.unusedVariables false
set_option linter.unusedSimpArgs false
theorem vb_bytes (n : Nat) : areBytesN (vb n) = true := by
 induction n using Nat.strongRecOn with
 | _ n ih =>
  by_cases hs : n < 128
  · rw [vb_small hs]; simp [areBytesN]; omega
  · rw [vb_great hs]
    simp only [areBytesN, List.all_cons, Bool.and_eq_true, decide_eq_true_eq]
    exact ⟨by omega, ih (n / 128) (by omega)⟩
theorem areBytesN_append {a b : List Int} (ha : areBytesN a = true) (hb : areBytesN b = true) : areBytesN (a ++ b) = true := by
 unfold areBytesN at *; rw [List.all_append, ha, hb]; rfl
theorem areBytesN_take {l : List Int} (h : areBytesN l = true) (k : Nat) : areBytesN (l.take k) = true := by
 unfold areBytesN at *
 rw [List.all_eq_true] at *
 exact fun x hx => h x (List.mem_of_mem_take hx)
theorem vbs_bytes (l : List Int) : areBytesN (vbs l) = true := by
 induction l with
 | nil => rfl
 | cons x l ih => exact areBytesN_append (vb_bytes _) ih
end Go.Proofs.Ytmbnjgnmblgjoaa.Man
end
section
namespace Go.Proofs.Ytmbnjgnmblgjoaa.Man
open Go.RowKit Go.Proofs.YtmbnjgnmblgjoaaW.PrintWords Go.Proofs.YtmbnjgnmblgjoaaW.PrintLast Go.Proofs.YtmbnjgnmblgjoaaW.PrintMore
set_option linter.unusedVariables false
set_option linter.unusedSimpArgs false
set_option maxRecDepth 100000
theorem info_u8 : (Try.prog.info? 5).map (fun i => (i.zero, i.size, i.bytes)) = some (some (.int .u8 0), 1, 1) := by kernel_rfl
abbrev BR (w : World) (base : Nat) (v : Value) (xs : List Int) : Prop := Kd.R (Kd.int .u8) 5 w base (fun _ => True) v xs
theorem BR.len {w : World} {base : Nat} {v : Value} {xs : List Int} (h : BR w base v xs) : ∃ A c, v = .slice A xs.length c ∧ xs.length ≤ c ∧ Kd.C (Kd.int .u8) w A xs.length xs := Kd.R_reads h
theorem BR.append_ev {ops : Array Oper} {rest : List Oper} {o : Oper} {a : Act} {Q : Exit → Act → World → Prop} {w : World} {base : Nat} {v : Value} {xs ys : List Int} {A : Option Addr} {m c : Nat}
 (h : BR w base v xs) (HR : Kd.C (Kd.int .u8) w A m ys) (hgd : o.guard = none) (s x : Operand) (ho : o.op = .call { callee := .builtin .append, args := #[s, x], argTypes := #[27, 27] })
 (hs : a.eval s = v) (hx : a.eval x = .slice A m c) (hbase : base ≤ w.heap.size) (hl : xs.length + m ≤ 140737488355328)
 (k : ∀ v1 w1, BR w1 base v1 (xs ++ ys) → Below base w w1 → (v1.ownBlock = v.ownBlock ∨ ∃ b, v1.ownBlock = some b ∧ w.heap.size ≤ b) → wpList Try.prog ops Q rest (a.put o.dst v1) w1) : wpList Try.prog ops Q (o :: rest) a w :=
 Kd.R_append_rows (Kd.int .u8) (Rr := (Kd.int .u8).K w) (w0 := w) base hgd s x 27 5 (.int .u8 0) 1 ho Try.underlying27 info_u8 rfl (by decide) (by omega) v xs ys A m c (fun _ => True) (fun _ => False) hs hx h HR (fun _ _ h => h) (fun _ h => h.elim) (fun _ _ => trivial) (Below.refl _ _) hbase (by omega)
  (fun v1 w1 h1 h2 h3 h4 => k v1 w1 h1 h2 h4)
theorem BR.push_ev {ops : Array Oper} {rest : List Oper} {o : Oper} {a : Act} {Q : Exit → Act → World → Prop} {w : World} {base : Nat} {v : Value} {xs : List Int} {y : Int}
 (h : BR w base v xs) (hgd : o.guard = none) (s x : Operand) (ho : o.op = .call { callee := .builtin .append, args := #[s, x], argTypes := #[27, 27] })
 (hs : a.eval s = v) (hx : a.eval x = .slice (some ⟨w.heap.size, 0, none⟩) 1 1) (hbase : base ≤ w.heap.size) (hl : xs.length + 1 ≤ 140737488355328)
 (k : ∀ v1 w1, BR w1 base v1 (xs ++ [y]) → Below base w w1 → (v1.ownBlock = v.ownBlock ∨ ∃ b, v1.ownBlock = some b ∧ w.heap.size ≤ b) → wpList Try.prog ops Q rest (a.put o.dst v1) w1) : wpList Try.prog ops Q (o :: rest) a (w.alloc (.cells #[.int .u8 y] 5)) :=
 Kd.R_append (Kd.int .u8) (w0 := w) base hgd s x 27 5 (.int .u8 0) 1 ho Try.underlying27 info_u8 rfl (by decide) (by omega) v xs y [.int .u8 y] (fun _ => True) (fun _ => False) hs hx rfl (fun _ h => h.elim) (fun _ _ => trivial) h (Below.refl _ _) hbase (by omega)
  (fun v1 w1 h1 h2 h3 h4 => k v1 w1 h1 h2 h4)
def sumF (l : List Int) : Int := moreF 1 l
theorem sumF_range (l : List Int) : 0 ≤ sumF l ∧ sumF l < 4294967296 := moreF_range 1 l
theorem of_any (A : Option Addr) (c : Nat) (l : List Int) (w : World) (hr : Kd.C (Kd.int .u8) w A l.length l) (hB : areBytesN l = true) :
 Calls Try.prog 90 #[.slice A l.length c] w fun e w' => e = .returned (.int .u32 (sumF l)) ∧ Below w.heap.size w w' := by
 have HR := Lib.hid hr
 have HB := Lib.hid hB
 clear hr hB
 go_enter Try.func90, Try.ntmps90
 go_wp2_with (go_at_call 142; refine (more_any 1 A c l w HR.out HB.out (by decide) (by decide)).mono ?_; rintro e w1 ⟨rfl, hb⟩; have HW := Lib.hid hb; clear hb)
 go_ret
 exact ⟨rfl, HW.out⟩
def be (s : Int) : List Int := [s / 16777216, s / 65536 % 256, s / 256 % 256, s % 256]
def frameF (b : List Int) : List Int := vb b.length ++ b ++ be (sumF b)
def wrapF (b : List Int) : List Int × Int := if 65536 < b.length then ([], 2) else (frameF b, 0)
theorem u64_one (n : Nat) (h : n < 18446744073709551616) : areU64 [(n : Int)] = true := by
 unfold areU64; simp; omega
theorem vbs_one (n : Nat) : vbs [(n : Int)] = vb n := by simp [vbs]
theorem C_box (w : World) (k : IntKind) (n : Int) (t : TypeId) : Kd.C (Kd.int k) (w.alloc (.cells #[.int k n] t)) (some ⟨w.heap.size, 0, none⟩) ([n] : List Int).length [n] :=
 Kd.C_of_reads (d := (0 : Int)) (h1 := fun _ => rfl) ⟨rfl, by simp, fun _ => ⟨_, rfl, fun j hj => by
  obtain rfl : j = 0 := by simp at hj; exact hj
  rw [Addr.add_lit, cell_of_row _ w.heap.size _ _ _ (0, 0) (World.alloc_heap_new w _)]
  rfl⟩⟩
theorem C_nil (w : World) (k : IntKind) : Kd.C (Kd.int k) w none ([] : List Int).length [] := Kd.C_of_reads (d := (0 : Int)) (h1 := fun _ => rfl) ⟨rfl, by simp, fun h => absurd h (by simp)⟩
set_option maxHeartbeats 4000000 in
theorem wrap_any (A0 : Option Addr) (c0 : Nat) (b : List Int) (w : World) (hr : Kd.C (Kd.int .u8) w A0 b.length b) (hB : areBytesN b = true) :
 Calls Try.prog 21 #[.slice A0 b.length c0] w fun e w' => ∃ v, e = .returned (.tuple #[v, .int .i64 (wrapF b).2]) ∧ BR w' w.heap.size v (wrapF b).1 ∧ Below w.heap.size w w' := by
 have hl63 : b.length ≤ 9223372036854775807 := hr.2.1
 have HR := Lib.hid hr
 have HB := Lib.hid hB
 clear hr hB
 unfold wrapF
 by_cases hbig : 65536 < b.length
 · rw [if_pos hbig]
   go_enter Try.func21, Try.ntmps21
   go_wp2
   go_ret2
   exact ⟨_, rfl, Kd.R_nil _ _ _ _ _, Below.refl _ _⟩
 rw [if_neg hbig]
 have h10 : (vb b.length).length ≤ 10 := vb_le_ten (by omega)
 have HN := Lib.hid (C_box w .u64 (b.length : Int) 90)
 have hbe : Below w.heap.size w (w.alloc (.cells #[.int .u64 (b.length : Int)] 90)) := (Below.refl _ _).alloc (Nat.le_refl _) _
 have HE := Lib.hid hbe
 have HNil := Lib.hid (C_nil (w.alloc (.cells #[.int .u64 (b.length : Int)] 90)) .u8)
 have hU : IntKind.u64.wrap (b.length : Int) = (b.length : Int) := by rw [IntKind.wrap_u64]; omega
 clear hbe
 go_enter Try.func21, Try.ntmps21
 go_wp2_with (first
  | (go_at_call 89; refine (put_any none (some ⟨w.heap.size, 0, none⟩) 0 1 [] [(b.length : Int)] _ HNil.out HN.out (u64_one _ (by omega)) (by rw [vbs_one, List.nil_append]; omega)).mono ?_; rintro e w1 ⟨v1, rfl, hr1, hb1⟩; rw [vbs_one, List.nil_append] at hr1; obtain ⟨A1, k1, rfl, hk1, _⟩ := BR.len hr1; have HR1 := Lib.hid hr1; have HB1 := Lib.hid (HE.out.trans (hb1.mono HE.out.size)); have hz1 : w.heap.size ≤ w1.heap.size := HB1.out.size; clear hr1 hb1 hk1)
  | (at_builtin; refine BR.append_ev (w := w1) (Kd.R_lower HR1.out HE.out.size) (Kd.C_below HR.out HB1.out) rfl (.tmp 14) (.tmp 15) rfl rfl rfl HB1.out.size (by omega) ?_; intro v2 w2 hr2 hb2 hat; obtain ⟨ys, hys⟩ : ∃ ys, vb b.length ++ b = ys := ⟨_, rfl⟩; rw [hys] at hr2; have hyl : ys.length ≤ 65546 := (by rw [← hys, List.length_append]; omega); have HYS := Lib.hid hys; clear hys; obtain ⟨A2, k2, rfl, hk2, _⟩ := BR.len hr2; have HR2 := Lib.hid hr2; have HB2 := Lib.hid (HB1.out.trans hb2); clear hr2 hb2 hat hk2)
  | (go_at_call 90; refine (of_any A0 c0 b _ (Kd.C_below HR.out HB2.out) HB.out).mono ?_; rintro e w3 ⟨rfl, hb⟩; have HR3 := Lib.hid (Kd.R_below HR2.out hb); have HB3 := Lib.hid (HB2.out.trans (hb.mono HB2.out.size)); clear hb))
 obtain ⟨hs0, hs1⟩ := sumF_range b
 obtain ⟨s, hs⟩ : ∃ s, sumF b = s := ⟨_, rfl⟩
 rw [hs] at hs0 hs1
 rw [hs]
 have HS := Lib.hid hs
 clear hs
 go_loopg [4, 6] 5 (fun g s4 s6 wr => ∃ i : Nat, g = 5 - i ∧ ((i = 0 ∧ s6 = .int .i64 24) ∨ (i = 1 ∧ s6 = .int .i64 16) ∨ (i = 2 ∧ s6 = .int .i64 8) ∨ (i = 3 ∧ s6 = .int .i64 0) ∨ (i = 4 ∧ s6 = .int .i64 (-8))) ∧ Hid (BR wr w.heap.size s4 (ys ++ (be s).take i)) ∧ Hid (Below w.heap.size w wr))
 case atStart => exact ⟨0, rfl, .inl ⟨rfl, rfl⟩, Lib.hid (by simpa using HR3.out), HB3⟩
 case round =>
  clear HR3 HB3
  obtain ⟨i, hg, hi, HR4, HB4⟩ := hrel
  rcases hi with ⟨rfl, rfl⟩ | ⟨rfl, rfl⟩ | ⟨rfl, rfl⟩ | ⟨rfl, rfl⟩ | ⟨rfl, rfl⟩
  · go_wp2_with (at_builtin; go_must (refine BR.push_ev (w := wr) (y := s / 16777216) HR4.out rfl (.tmp 23) (.tmp 28) rfl rfl rfl HB4.out.size (by rw [List.length_append, List.length_take]; omega) ?_; intro v5 w5 hr5 hb5 hat; have HR5 := Lib.hid hr5; have HB5 := Lib.hid (HB4.out.trans hb5); clear hr5 hb5 hat))
    go_roundg 4
    case measure => omega
    case rel => exact ⟨1, by omega, by simp, Lib.hid (by have := HR5.out; rw [List.append_assoc] at this; exact this), HB5⟩
  · go_wp2_with (at_builtin; go_must (refine BR.push_ev (w := wr) (y := s / 65536 % 256) HR4.out rfl (.tmp 23) (.tmp 28) rfl rfl rfl HB4.out.size (by rw [List.length_append, List.length_take]; omega) ?_; intro v5 w5 hr5 hb5 hat; have HR5 := Lib.hid hr5; have HB5 := Lib.hid (HB4.out.trans hb5); clear hr5 hb5 hat))
    go_roundg 3
    case measure => omega
    case rel => exact ⟨2, by omega, by simp, Lib.hid (by have := HR5.out; rw [List.append_assoc] at this; exact this), HB5⟩
  · go_wp2_with (at_builtin; go_must (refine BR.push_ev (w := wr) (y := s / 256 % 256) HR4.out rfl (.tmp 23) (.tmp 28) rfl rfl rfl HB4.out.size (by rw [List.length_append, List.length_take]; omega) ?_; intro v5 w5 hr5 hb5 hat; have HR5 := Lib.hid hr5; have HB5 := Lib.hid (HB4.out.trans hb5); clear hr5 hb5 hat))
    go_roundg 2
    case measure => omega
    case rel => exact ⟨3, by omega, by simp, Lib.hid (by have := HR5.out; rw [List.append_assoc] at this; exact this), HB5⟩
  · go_wp2_with (at_builtin; go_must (refine BR.push_ev (w := wr) (y := s % 256) HR4.out rfl (.tmp 23) (.tmp 28) rfl rfl rfl HB4.out.size (by rw [List.length_append, List.length_take]; omega) ?_; intro v5 w5 hr5 hb5 hat; have HR5 := Lib.hid hr5; have HB5 := Lib.hid (HB4.out.trans hb5); clear hr5 hb5 hat))
    go_roundg 1
    case measure => omega
    case rel => exact ⟨4, by omega, by simp, Lib.hid (by have := HR5.out; rw [List.append_assoc] at this; exact this), HB5⟩
  · go_wp2
    go_ret2
    refine ⟨_, rfl, ?_, HB4.out⟩
    show BR wr w.heap.size _ (vb b.length ++ b ++ be (sumF b))
    rw [HYS.out, HS.out]
    exact HR4.out
theorem getL_off (l : List Int) : ∀ (i n : Nat), i ≤ (getL l i n).2.1 ∧ (getL l i n).2.1 ≤ i + l.length ∧ ((getL l i n).2.2 = 0 ∨ (getL l i n).2.2 = 3 ∨ (getL l i n).2.2 = 4) := by
 induction l with
 | nil => intro i n; simp [getL]
 | cons c l ih =>
  intro i n
  rw [getL]
  split
  · simp
  · split
    · simp
    · have := ih (i + 1) (n + (c.toNat - 128) * 128 ^ i)
      simp only [List.length_cons]
      refine ⟨by omega, by omega, this.2.2⟩
theorem or_byte (a c : Int) (h0 : 0 ≤ a) (h1 : a < 16777216) (h2 : 0 ≤ c) (h3 : c ≤ 255) : Go.bits .or .u32 (a * 256) c = a * 256 + c := by
 refine bits_join .u32 32 (by decide) (fun n a b => ?_) 8 (a * 256) c ?_ ?_ ?_ h2 ?_ ?_
 · have b' : n < 4294967296 := b
   rw [IntKind.wrap_u32]; omega
 · omega
 · show a * 256 % 256 = 0
   omega
 · show a * 256 < 4294967296
   omega
 · show c < 256
   omega
 · show c < 4294967296
   omega
def be4 (l : List Int) : Int := ((l.getD 0 0 * 256 + l.getD 1 0) * 256 + l.getD 2 0) * 256 + l.getD 3 0
def mid (b : List Int) (i j : Int) : List Int := (b.take j.toNat).drop i.toNat
def openF (b : List Int) (at_ : Int) : List Int × Int × Int :=
 if (getF b at_).2.2 ≠ 0 then ([], at_, (getF b at_).2.2)
 else if 65536 < (getF b at_).1 then ([], at_, 4)
 else if (b.length : Int) - (getF b at_).2.1 < (getF b at_).1 + 4 then ([], at_, 3)
 else if be4 (mid b ((getF b at_).2.1 + (getF b at_).1) ((getF b at_).2.1 + (getF b at_).1 + 4)) ≠ sumF (mid b (getF b at_).2.1 ((getF b at_).2.1 + (getF b at_).1)) then ([], at_, 10)
 else (mid b (getF b at_).2.1 ((getF b at_).2.1 + (getF b at_).1), (getF b at_).2.1 + (getF b at_).1 + 4, 0)
theorem getF_range (b : List Int) (at_ : Int) (hB : areBytesN b = true) (h : (getF b at_).2.2 = 0) : 0 ≤ at_ ∧ at_ ≤ (getF b at_).2.1 ∧ (getF b at_).2.1 ≤ b.length ∧ 0 ≤ (getF b at_).1 := by
 unfold getF at h ⊢
 by_cases hb : at_ < 0 ∨ (b.length : Int) < at_
 · rw [if_pos hb] at h; cases h
 · rw [if_neg hb]
   have := getL_off (b.drop at_.toNat) 0 0
   rw [List.length_drop] at this
   simp only
   omega
set_option maxHeartbeats 4000000 in
theorem open_any (A0 : Option Addr) (c0 : Nat) (b : List Int) (at_ : Int) (w : World) (hr : Kd.C (Kd.int .u8) w A0 b.length b) (hc : b.length ≤ c0) (hB : areBytesN b = true) (hl : b.length ≤ 140737488355328) :
 Calls Try.prog 22 #[.slice A0 b.length c0, .int .i64 at_] w fun e w' => ∃ v, e = .returned (.tuple #[v, .int .i64 (openF b at_).2.1, .int .i64 (openF b at_).2.2]) ∧ BR w' w.heap.size v (openF b at_).1 ∧ Below w.heap.size w w' := by
 have hg := getF_range b at_ hB
 have HR := Lib.hid hr
 have HB := Lib.hid hB
 have HG := Lib.hid (get_any A0 c0 b at_ w hr hc hB)
 clear hr hB
 obtain ⟨R, hR⟩ : ∃ R, openF b at_ = R := ⟨_, rfl⟩
 rw [hR]
 unfold openF at hR
 obtain ⟨g, hgd⟩ : ∃ g, getF b at_ = g := ⟨_, rfl⟩
 rw [hgd] at hg HG hR
 have HGD := Lib.hid hgd
 clear hgd
 obtain ⟨n, nx, er⟩ := g
 simp only at hg HG hR
 by_cases h0 : er ≠ 0
 · have h0b : (er != 0) = true := by simpa using h0
   rw [if_pos h0] at hR
   subst hR
   clear h0 hg
   go_enter Try.func22, Try.ntmps22
   go_wp2_with (go_at_call 91; refine HG.out.mono ?_; rintro e w1 ⟨rfl, rfl⟩)
   go_ret3
   exact ⟨_, rfl, Kd.R_nil _ _ _ _ _, Below.refl _ _⟩
 obtain rfl : er = 0 := by omega
 obtain ⟨ha, h1, h2, h3⟩ := hg rfl
 clear h0 hg
 rw [if_neg (by simp)] at hR
 by_cases h4 : 65536 < n
 · rw [if_pos h4] at hR
   subst hR
   go_enter Try.func22, Try.ntmps22
   go_wp2_with (go_at_call 91; refine HG.out.mono ?_; rintro e w1 ⟨rfl, rfl⟩)
   go_ret3
   exact ⟨_, rfl, Kd.R_nil _ _ _ _ _, Below.refl _ _⟩
 rw [if_neg h4] at hR
 have hU : IntKind.u64.wrap ((b.length : Int) - nx) = (b.length : Int) - nx := by rw [IntKind.wrap_u64]; omega
 by_cases h5 : (b.length : Int) - nx < n + 4
 · rw [if_pos h5] at hR
   subst hR
   go_enter Try.func22, Try.ntmps22
   go_wp2_with (go_at_call 91; refine HG.out.mono ?_; rintro e w1 ⟨rfl, rfl⟩)
   go_ret3
   exact ⟨_, rfl, Kd.R_nil _ _ _ _ _, Below.refl _ _⟩
 rw [if_neg h5] at hR
 obtain ⟨i0, hi0, hsz⟩ : ∃ i0, Try.prog.info? 5 = some i0 ∧ i0.size = 1 := by obtain ⟨i0, h, _, h2, _⟩ := info_parts info_u8; exact ⟨i0, h, h2⟩
 obtain ⟨Ax, hcx, hAx, hkx⟩ := print_mid_of (P := Try.prog) (Value.int .u8) 0 27 5 .i64 .i64 Try.underlying27 hi0 hsz A0 c0 b nx (nx + n) (by omega) (by omega) (by omega) hc
 obtain ⟨Ay, hcy, hAy, hky⟩ := print_mid_of (P := Try.prog) (Value.int .u8) 0 27 5 .i64 .i64 Try.underlying27 hi0 hsz A0 c0 b (nx + n) (nx + n + 4) (by omega) (by omega) (by omega) hc
 have hCx := Kd.C_of_reads (h1 := fun _ => rfl) (hAx _ (Kd.reads_of_C HR.out))
 have hCy := Kd.C_of_reads (h1 := fun _ => rfl) (hAy _ (Kd.reads_of_C HR.out))
 clear hAx hAy hi0 hsz hkx hky
 have hBx : areBytesN ((b.take (nx + n).toNat).drop nx.toNat) = true := areBytesN_drop (areBytesN_take HB.out _) _
 have hBy : areBytesN ((b.take (nx + n + 4).toNat).drop (nx + n).toNat) = true := areBytesN_drop (areBytesN_take HB.out _) _
 have hly : ((b.take (nx + n + 4).toNat).drop (nx + n).toNat).length = 4 := by rw [List.length_drop, List.length_take]; omega
 have hlx : ((b.take (nx + n).toNat).drop nx.toNat).length ≤ 65536 := by rw [List.length_drop, List.length_take]; omega
 unfold mid at hR
 obtain ⟨x, hx⟩ : ∃ x, (b.take (nx + n).toNat).drop nx.toNat = x := ⟨_, rfl⟩
 obtain ⟨y, hy⟩ : ∃ y, (b.take (nx + n + 4).toNat).drop (nx + n).toNat = y := ⟨_, rfl⟩
 rw [hx] at hCx hcx hBx hlx hR
 rw [hy] at hCy hcy hBy hly hR
 clear hx hy
 match y, hly with
 | [y0, y1, y2, y3], _ =>
 have e0 := getN_get hBy (k := 0) (by simp)
 have e1 := getN_get hBy (k := 1) (by simp)
 have e2 := getN_get hBy (k := 2) (by simp)
 have e3 := getN_get hBy (k := 3) (by simp)
 obtain ⟨ady, ea, cy0⟩ := Kd.at_int hCy 0 (by decide) (by simp)
 obtain ⟨ady1, ea1, cy1⟩ := Kd.at_int hCy 1 (by decide) (by simp)
 obtain ⟨ady2, ea2, cy2⟩ := Kd.at_int hCy 2 (by decide) (by simp)
 obtain ⟨ady3, ea3, cy3⟩ := Kd.at_int hCy 3 (by decide) (by simp)
 subst ea
 cases ea1; cases ea2; cases ea3
 change w.cell? (ady.add 0) = some (.int .u8 y0) at cy0
 change w.cell? (ady.add 1) = some (.int .u8 y1) at cy1
 change w.cell? (ady.add 2) = some (.int .u8 y2) at cy2
 change w.cell? (ady.add 3) = some (.int .u8 y3) at cy3
 change 0 ≤ y0 ∧ y0 ≤ 255 at e0
 change 0 ≤ y1 ∧ y1 ≤ 255 at e1
 change 0 ≤ y2 ∧ y2 ≤ 255 at e2
 change 0 ≤ y3 ∧ y3 ≤ 255 at e3
 obtain ⟨p0, q0⟩ := e0
 obtain ⟨p1, q1⟩ := e1
 obtain ⟨p2, q2⟩ := e2
 obtain ⟨p3, q3⟩ := e3
 have HRR := Lib.hid hR
 clear hR
 have HCX := Lib.hid hCx
 have HBX := Lib.hid hBx
 have HY0 := Lib.hid cy0
 have HY1 := Lib.hid cy1
 have HY2 := Lib.hid cy2
 have HY3 := Lib.hid cy3
 clear hCx hBx hCy hBy cy0 cy1 cy2 cy3 hU
 simp only [List.length_cons, List.length_nil] at hcy
 go_enter Try.func22, Try.ntmps22
 go_wp2_with (first
  | (go_at_call 91; refine HG.out.mono ?_; rintro e w1 ⟨rfl, rfl⟩)
  | (at_builtin; refine BR.append_ev (w := w) (Kd.R_nil _ _ _ w.heap.size _) HCX.out rfl (.const (.slice none 0 0)) (.tmp 47) rfl rfl rfl (Nat.le_refl _) (by simp only [List.length_nil]; omega) ?_; intro v2 w2 hr2 hb2 hat; rw [List.nil_append] at hr2; obtain ⟨A2, k2, rfl, hk2, hC2⟩ := BR.len hr2; have HC2 := Lib.hid hC2; have HR2 := Lib.hid hr2; have HB2 := Lib.hid hb2; clear hr2 hb2 hat hk2 hC2))
 have z0 := pw_cell_below HB2.out HY0.out
 have z1 := pw_cell_below HB2.out HY1.out
 have z2 := pw_cell_below HB2.out HY2.out
 have z3 := pw_cell_below HB2.out HY3.out
 have HZ : Hid (w2.cell? (ady.add 0) = some (.int .u8 y0) ∧ w2.cell? (ady.add 1) = some (.int .u8 y1) ∧ w2.cell? (ady.add 2) = some (.int .u8 y2) ∧ w2.cell? (ady.add 3) = some (.int .u8 y3)) := Lib.hid ⟨z0, z1, z2, z3⟩
 clear z0 z1 z2 z3
 go_loopg [12, 59] 5 (fun g s12 s59 wr => w2 = wr ∧ ((g = 5 ∧ s59 = .int .i64 0 ∧ s12 = .int .u32 0) ∨ (g = 4 ∧ s59 = .int .i64 1 ∧ s12 = .int .u32 y0) ∨ (g = 3 ∧ s59 = .int .i64 2 ∧ s12 = .int .u32 (y0 * 256 + y1)) ∨ (g = 2 ∧ s59 = .int .i64 3 ∧ s12 = .int .u32 ((y0 * 256 + y1) * 256 + y2)) ∨ (g = 1 ∧ s59 = .int .i64 4 ∧ s12 = .int .u32 (((y0 * 256 + y1) * 256 + y2) * 256 + y3))))
 case atStart => exact ⟨rfl, .inl ⟨rfl, rfl, rfl⟩⟩
 case round =>
  obtain ⟨rfl, hrel⟩ := hrel
  rcases hrel with ⟨rfl, rfl, rfl⟩ | ⟨rfl, rfl, rfl⟩ | ⟨rfl, rfl, rfl⟩ | ⟨rfl, rfl, rfl⟩ | ⟨rfl, rfl, rfl⟩
  · have hcell : w2.cell? ady = some (.int .u8 y0) := by simpa [Addr.add] using HZ.out.1
    have hor : Go.bits .or .u32 0 y0 = y0 := by have := or_byte 0 y0 (by omega) (by omega) p0 q0; simpa using this
    go_wp2
    go_roundg 4
    case measure => omega
    case rel => exact ⟨rfl, .inr (.inl ⟨rfl, rfl, by first | rfl | simp⟩)⟩
  · have hcell : w2.cell? ⟨ady.block, ady.off + 1, none⟩ = some (.int .u8 y1) := by simpa [Addr.add] using HZ.out.2.1
    have hor := or_byte y0 y1 (by omega) (by omega) p1 q1
    go_wp2
    go_roundg 3
    case measure => omega
    case rel => exact ⟨rfl, .inr (.inr (.inl ⟨rfl, rfl, by first | rfl | simp⟩))⟩
  · have hcell : w2.cell? ⟨ady.block, ady.off + 2, none⟩ = some (.int .u8 y2) := by simpa [Addr.add] using HZ.out.2.2.1
    have hor := or_byte (y0 * 256 + y1) y2 (by omega) (by omega) p2 q2
    go_wp2
    go_roundg 2
    case measure => omega
    case rel => exact ⟨rfl, .inr (.inr (.inr (.inl ⟨rfl, rfl, by first | rfl | simp⟩)))⟩
  · have hcell : w2.cell? ⟨ady.block, ady.off + 3, none⟩ = some (.int .u8 y3) := by simpa [Addr.add] using HZ.out.2.2.2
    have hor := or_byte ((y0 * 256 + y1) * 256 + y2) y3 (by omega) (by omega) p3 q3
    go_wp2
    go_roundg 1
    case measure => omega
    case rel => exact ⟨rfl, .inr (.inr (.inr (.inr (⟨rfl, rfl, by first | rfl | simp⟩))))⟩
  · have hs := sumF_range x
    obtain ⟨sx, hsx⟩ : ∃ sx, sumF x = sx := ⟨_, rfl⟩
    rw [hsx] at hs
    obtain ⟨hs0, hs1⟩ := hs
    have HSX := Lib.hid hsx
    clear hsx
    obtain ⟨sy, hsy⟩ : ∃ sy, ((y0 * 256 + y1) * 256 + y2) * 256 + y3 = sy := ⟨_, rfl⟩
    rw [hsy]
    have HSY := Lib.hid hsy
    clear hsy
    have hd : R = if sy = sx then (x, nx + n + 4, 0) else ([], at_, 10) := by
     have e : be4 [y0, y1, y2, y3] = sy := HSY.out
     have hR := HRR.out
     rw [e, HSX.out] at hR
     rw [← hR]
     by_cases hh : sy = sx
     · rw [if_pos hh, if_neg (by simpa using hh)]
     · rw [if_neg hh, if_pos hh]
    have HD := Lib.hid hd
    clear hd
    by_cases hne : sy = sx
    · have hne' : (sy != sx) = false := by simpa using hne
      have HNE := Lib.hid hne
      clear hne
      go_wp2_with (go_at_call 90; refine (of_any A2 k2 x _ HC2.out HBX.out).mono ?_; rintro e w3 ⟨rfl, hb⟩; have HR3 := Lib.hid (Kd.R_below HR2.out hb); have HB3 := Lib.hid (HB2.out.trans (hb.mono HB2.out.size)); have hsx := HSX.out; rw [hsx]; clear hb hsx)
      go_ret3
      have hd := HD.out
      rw [if_pos HNE.out] at hd
      subst hd
      exact ⟨_, rfl, HR3.out, HB3.out⟩
    · have hne' : (sy != sx) = true := by simpa using hne
      have HNE := Lib.hid hne
      clear hne
      go_wp2_with (go_at_call 90; refine (of_any A2 k2 x _ HC2.out HBX.out).mono ?_; rintro e w3 ⟨rfl, hb⟩; have HR3 := Lib.hid (Kd.R_below HR2.out hb); have HB3 := Lib.hid (HB2.out.trans (hb.mono HB2.out.size)); have hsx := HSX.out; rw [hsx]; clear hb hsx)
      go_ret3
      have hd := HD.out
      rw [if_neg HNE.out] at hd
      subst hd
      exact ⟨_, rfl, Kd.R_nil _ _ _ _ _, HB3.out⟩
end Go.Proofs.Ytmbnjgnmblgjoaa.Man
end
section
namespace Go.Proofs.Ytmbnjgnmblgjoaa.Man
open Go.RowKit Go.Proofs.YtmbnjgnmblgjoaaW.PrintWords Go.Proofs.YtmbnjgnmblgjoaaW.PrintLast Go.Proofs.YtmbnjgnmblgjoaaW.PrintMore
set_option linter.unusedVariables false
set_option linter.unusedSimpArgs false
set_option maxRecDepth 100000
def ChunkAt (w : World) (B : Nat) (h : Int) (v : Value) (n : Int) : Prop := w.heap[B]? = some (.cells #[.int .i64 h, v, .int .i64 n] 151 (0, 0))
theorem ChunkAt.c0 {w : World} {B : Nat} {h n : Int} {v : Value} (k : ChunkAt w B h v n) : w.cell? ⟨B, 0, none⟩ = some (.int .i64 h) := by simp [World.cell?, show w.heap[B]? = _ from k]
theorem ChunkAt.c1 {w : World} {B : Nat} {h n : Int} {v : Value} (k : ChunkAt w B h v n) : w.cell? ⟨B, 1, none⟩ = some v := by simp [World.cell?, show w.heap[B]? = _ from k]
theorem ChunkAt.f {w : World} {B : Nat} {h n : Int} {v : Value} (k : ChunkAt w B h v n) (j : Nat) : w.frozen? ⟨B, j, none⟩ = false := by simp [World.frozen?, show w.heap[B]? = _ from k]
structure ChunkS (w : World) (B : Nat) (h : Int) (v : Value) (xs : List Int) (n : Int) : Prop where
 at_ : ChunkAt w B h v n
 row : ∃ A c, v = .slice A xs.length c ∧ xs.length ≤ c ∧ Kd.C (Kd.int .u8) w A xs.length xs
 bytes : areBytesN xs = true
 typ : ∀ k, v.ownBlock = some k → ∃ cur, w.heap[k]? = some (.cells cur 5 (0, 0))
theorem grownBy_set (w : World) (B k : Nat) (u : Value) {w0 : World} (h : w0.grownBy w (some B)) : w0.grownBy (w.setCell ⟨B, k, none⟩ u) (some B) :=
 ⟨h.os, h.tape, h.output, by simpa [World.setCell] using h.size, fun i hi hne => (Below.heap_setCell w ⟨B, k, none⟩ u i (fun e => hne (by rw [e]))).trans (h.block i hi hne)⟩
def closeE (xs : List Int) : Int := if 0 < xs.length then 3 else 0
end Go.Proofs.Ytmbnjgnmblgjoaa.Man
end
section
namespace Go.Proofs.Ytmbnjgnmblgjoaa.Man
open Go.RowKit Go.Proofs.YtmbnjgnmblgjoaaW.PrintWords Go.Proofs.YtmbnjgnmblgjoaaW.PrintLast Go.Proofs.YtmbnjgnmblgjoaaW.PrintMore
set_option linter.unusedVariables false
set_option linter.unusedSimpArgs false
set_option maxRecDepth 100000
def eat : Nat → List Int → Int → List (List Int) × Int × Int
 | 0, _, at_ => ([], at_, 3)
 | k + 1, ws, at_ => if (openF ws at_).2.2 = 0 then ((openF ws at_).1 :: (eat k ws (openF ws at_).2.1).1, (eat k ws (openF ws at_).2.1).2) else ([], at_, (openF ws at_).2.2)
def eatAll (ws : List Int) : List (List Int) × Int × Int := eat (ws.length + 1) ws 0
def feedE (ws : List Int) : Int := if (eatAll ws).2.2 = 3 then 0 else (eatAll ws).2.2
def feedH (ws : List Int) : Int := if (eatAll ws).2.2 = 3 then 1 else 2
def feedW (ws : List Int) : List Int := if (eatAll ws).2.2 = 3 then ws.drop (eatAll ws).2.1.toNat else []
abbrev OUT (w : World) (base : Nat) (v : Value) (os : List (List Int)) : Prop := Kd.R (Kd.slice 5 (Kd.int .u8)) 27 w base (fun _ => True) v os
theorem C_block {w : World} {g : Nat} {ws : List Int} (h : w.heap[g]? = some (.cells (encs (Value.int .u8) ws).toArray 5 (0, 0))) (hl : ws.length ≤ 9223372036854775807) : Kd.C (Kd.int .u8) w (some ⟨g, 0, none⟩) ws.length ws :=
 Kd.C_of_reads (d := (0 : Int)) (h1 := fun _ => rfl) ⟨rfl, hl, fun _ => ⟨_, rfl, fun j hj => by
  rw [Addr.add_lit, Nat.zero_add, cell_of_row _ g _ _ _ (0, 0) h]
  have := encs_get (enc := Value.int .u8) (d := (0 : Int)) ws j hj
  simpa using this⟩⟩
end Go.Proofs.Ytmbnjgnmblgjoaa.Man
end
section
namespace Go.Proofs.Ytmbnjgnmblgjoaa.Man
open Go.RowKit
set_option linter.unusedVariables false
theorem mid_drop (b : List Int) (p : Nat) (i j : Int) (hi : 0 ≤ i) (hj : 0 ≤ j) : mid (b.drop p) i j = mid b ((p : Int) + i) ((p : Int) + j) := by
 unfold mid
 rw [List.take_drop, List.drop_drop, show p + j.toNat = ((p : Int) + j).toNat by omega, show p + i.toNat = ((p : Int) + i).toNat by omega]
theorem openF_drop (b : List Int) (p : Nat) (q : Int) (hp : p ≤ b.length) (hB : areBytesN b = true) (hq : 0 ≤ q) : openF (b.drop p) q = ((openF b ((p : Int) + q)).1, (openF b ((p : Int) + q)).2.1 - (p : Int), (openF b ((p : Int) + q)).2.2) := by
 have hg := getF_range b ((p : Int) + q) hB
 by_cases hr : (b.length : Int) - p < q
 · have e1 : getF (b.drop p) q = (0, 0, 1) := by unfold getF; rw [if_pos (by rw [List.length_drop]; omega)]
   have e2 : getF b ((p : Int) + q) = (0, 0, 1) := by unfold getF; rw [if_pos (by omega)]
   unfold openF
   rw [e1, e2]
   simp
   omega
 · have e1 : getF (b.drop p) q = ((getF b ((p : Int) + q)).1, (getF b ((p : Int) + q)).2.1 - p, (getF b ((p : Int) + q)).2.2) := by
    unfold getF
    rw [if_neg (by rw [List.length_drop]; omega), if_neg (by omega), List.drop_drop, show p + q.toNat = ((p : Int) + q).toNat by omega]
    simp only [Prod.mk.injEq, true_and, and_true]
    omega
   unfold openF
   rw [e1]
   simp only
   by_cases h0 : (getF b ((p : Int) + q)).2.2 ≠ 0
   · rw [if_pos h0, if_pos h0]; simp; omega
   have hg := hg (by omega)
   rw [if_neg h0, if_neg h0]
   by_cases h1 : 65536 < (getF b ((p : Int) + q)).1
   · rw [if_pos h1, if_pos h1]; simp; omega
   rw [if_neg h1, if_neg h1]
   by_cases h2 : (b.length : Int) - (getF b ((p : Int) + q)).2.1 < (getF b ((p : Int) + q)).1 + 4
   · rw [if_pos h2, if_pos (by rw [List.length_drop]; omega)]; simp; omega
   have e2 : ¬ (((b.drop p).length : Int) - ((getF b ((p : Int) + q)).2.1 - p) < (getF b ((p : Int) + q)).1 + 4) := by rw [List.length_drop]; omega
   rw [if_neg h2, if_neg e2, mid_drop b p _ _ (by omega) (by omega), mid_drop b p _ _ (by omega) (by omega)]
   rw [show (p : Int) + ((getF b ((p : Int) + q)).2.1 - p + (getF b ((p : Int) + q)).1) = (getF b ((p : Int) + q)).2.1 + (getF b ((p : Int) + q)).1 by omega,
    show (p : Int) + ((getF b ((p : Int) + q)).2.1 - p + (getF b ((p : Int) + q)).1 + 4) = (getF b ((p : Int) + q)).2.1 + (getF b ((p : Int) + q)).1 + 4 by omega,
    show (p : Int) + ((getF b ((p : Int) + q)).2.1 - p) = (getF b ((p : Int) + q)).2.1 by omega]
   split
   · simp; omega
   · simp only [Prod.mk.injEq, true_and, and_true]
     omega
end Go.Proofs.Ytmbnjgnmblgjoaa.Man
end
section
namespace Go.Proofs.Ytmbnjgnmblgjoaa.Man
open Go.RowKit
set_option linter.unusedVariables false
theorem vb_of2 (v : Nat) (off : Nat) (l : List Int) (hB : areBytesN l = true) (h : getL l 0 0 = (v, off, 0)) : v < 18446744073709551616 ∧ 0 < off ∧ off ≤ l.length ∧ l = vb v ++ l.drop off ∧ off = (vb v).length := by
 obtain ⟨m, _, hv, hm, hoff, hl⟩ := getL_inv l 0 0 v off hB (by decide) h
 have e : v = m := by rw [hv]; simp
 subst e
 have hoff' : off = (vb v).length := by omega
 have hp := vb_length_pos v
 refine ⟨by have h2 : (2 : Nat) * 128 ^ (9 - 0) = 18446744073709551616 := by decide
            omega, by omega, ?_, by rw [hoff']; exact hl, hoff'⟩
 have := congrArg List.length hl
 rw [List.length_append] at this
 omega
end Go.Proofs.Ytmbnjgnmblgjoaa.Man
end
section
namespace Go.Proofs.Ytmbnjgnmblgjoaa.Man
open Go.RowKit
set_option linter.unusedVariables false
theorem be_length (s : Int) : (be s).length = 4 := rfl
theorem be4_be (s : Int) (h0 : 0 ≤ s) (h1 : s < 4294967296) : be4 (be s) = s := by
 unfold be4 be
 simp only [List.getD_cons_zero, List.getD_cons_succ]
 omega
theorem be_be4 (l : List Int) (hl : l.length = 4) (hB : areBytesN l = true) : be (be4 l) = l := by
 match l, hl with
 | [a, b, c, d], _ =>
  have e0 := getN_get hB (k := 0) (by simp)
  have e1 := getN_get hB (k := 1) (by simp)
  have e2 := getN_get hB (k := 2) (by simp)
  have e3 := getN_get hB (k := 3) (by simp)
  simp only [List.getD_cons_zero, List.getD_cons_succ] at e0 e1 e2 e3
  unfold be be4
  simp only [List.getD_cons_zero, List.getD_cons_succ, List.cons.injEq, and_true]
  omega
theorem be_bytes (s : Int) (h0 : 0 ≤ s) (h1 : s < 4294967296) : areBytesN (be s) = true := by
 unfold areBytesN be
 simp only [List.all_cons, List.all_nil, Bool.and_true, Bool.and_eq_true, decide_eq_true_eq]
 omega
theorem frameF_bytes (b : List Int) (hB : areBytesN b = true) : areBytesN (frameF b) = true :=
 areBytesN_append (areBytesN_append (vb_bytes _) hB) (be_bytes _ (sumF_range b).1 (sumF_range b).2)
theorem frameF_length (b : List Int) : (frameF b).length = (vb b.length).length + b.length + 4 := by
 unfold frameF; rw [List.length_append, List.length_append, be_length]
theorem getF_vb (n : Nat) (hn : n < 18446744073709551616) (rest : List Int) : getF (vb n ++ rest) 0 = ((n : Int), ((vb n).length : Int), 0) := by
 unfold getF
 rw [if_neg (by rw [List.length_append]; omega)]
 have := getL_vb n 0 0 rest (.inl rfl) (by omega) (by omega)
 simp only [Int.toNat_zero, List.drop_zero, this]
 simp
theorem mid_parts (x y z : List Int) : mid (x ++ y ++ z) x.length ((x.length : Int) + y.length) = y := by
 unfold mid
 rw [show ((x.length : Int) + y.length).toNat = (x ++ y).length by rw [List.length_append]; omega, List.take_left, Int.toNat_natCast, List.drop_left]
theorem openF_frame (b rest : List Int) (hB : areBytesN b = true) (hl : b.length ≤ 65536) : openF (frameF b ++ rest) 0 = (b, ((frameF b).length : Int), 0) := by
 have hs := sumF_range b
 have e : frameF b ++ rest = vb b.length ++ (b ++ (be (sumF b) ++ rest)) := by unfold frameF; simp
 have hg := getF_vb b.length (by omega) (b ++ (be (sumF b) ++ rest))
 have hlen := frameF_length b
 unfold openF
 rw [e, hg]
 simp only
 rw [if_neg (by simp), if_neg (by omega), if_neg (by simp only [List.length_append, be_length]; omega)]
 have m1 : mid (vb b.length ++ (b ++ (be (sumF b) ++ rest))) ((vb b.length).length : Int) (((vb b.length).length : Int) + (b.length : Int)) = b := by
  rw [← List.append_assoc]; exact mid_parts _ _ _
 have m2 : mid (vb b.length ++ (b ++ (be (sumF b) ++ rest))) (((vb b.length).length : Int) + (b.length : Int)) (((vb b.length).length : Int) + (b.length : Int) + 4) = be (sumF b) := by
  have := mid_parts (vb b.length ++ b) (be (sumF b)) rest
  rw [be_length, List.length_append, Int.natCast_add] at this
  simp only [List.append_assoc] at this ⊢
  exact this
 rw [m1, m2, be4_be _ hs.1 hs.2, if_neg (by simp), hlen]
 simp
theorem openF_short (b : List Int) (hl : b.length ≤ 65536) (j : Nat) (hj : j < (frameF b).length) : openF ((frameF b).take j) 0 = ([], 0, 3) := by
 have hlen := frameF_length b
 by_cases h1 : j < (vb b.length).length
 · have e : (frameF b).take j = (vb b.length).take j := by unfold frameF; rw [List.append_assoc, List.take_append_of_le_length (by omega)]
   have hg := getL_short b.length 0 0 j (.inl rfl) (by omega) (by omega) h1
   have hF : (getF ((vb b.length).take j) 0).2.2 = 3 := by
    unfold getF
    rw [if_neg (by rw [List.length_take]; omega)]
    simp only [Int.toNat_zero, List.drop_zero, hg]
   unfold openF
   rw [e, if_pos (by rw [hF]; decide), hF]
 · have e : (frameF b).take j = vb b.length ++ (b ++ be (sumF b)).take (j - (vb b.length).length) := by
    unfold frameF; rw [List.append_assoc, List.take_append, List.take_of_length_le (by omega)]
   unfold openF
   rw [e, getF_vb b.length (by omega)]
   simp only
   rw [if_neg (by simp), if_neg (by omega), if_pos]
   simp only [List.length_append, List.length_take, be_length]
   omega
theorem openF_empty : openF [] 0 = ([], 0, 3) := by decide +kernel
theorem openF_inv (d : List Int) (y : List Int) (nx : Int) (hB : areBytesN d = true) (h : openF d 0 = (y, nx, 0)) : y.length ≤ 65536 ∧ areBytesN y = true ∧ nx = ((frameF y).length : Int) ∧ ∃ rest, d = frameF y ++ rest := by
 have hg := getF_range d 0 hB
 unfold openF at h
 by_cases h0 : (getF d 0).2.2 ≠ 0
 · rw [if_pos h0] at h
   exact absurd (congrArg (fun p => p.2.2) h) h0
 have h00 : (getF d 0).2.2 = 0 := by omega
 obtain ⟨_, g1, g2, g3⟩ := hg h00
 rw [if_neg h0] at h
 by_cases h1 : 65536 < (getF d 0).1
 · rw [if_pos h1] at h; cases congrArg (fun p => p.2.2) h
 rw [if_neg h1] at h
 by_cases h2 : (d.length : Int) - (getF d 0).2.1 < (getF d 0).1 + 4
 · rw [if_pos h2] at h; cases congrArg (fun p => p.2.2) h
 rw [if_neg h2] at h
 have hF : getF d 0 = (((getL d 0 0).1 : Int), ((getL d 0 0).2.1 : Int), (getL d 0 0).2.2) := by
  unfold getF
  rw [if_neg (by omega)]
  simp
 obtain ⟨⟨v, off, er⟩, hL⟩ : ∃ r, getL d 0 0 = r := ⟨_, rfl⟩
 rw [hL] at hF
 rw [hF] at h h00 h1 h2 g1 g2 g3
 simp only at h h00 h1 h2 g1 g2 g3
 subst h00
 obtain ⟨v1, v2, v3, v4, v5⟩ := vb_of2 v off d hB hL
 by_cases h3 : be4 (mid d ((off : Int) + (v : Int)) ((off : Int) + (v : Int) + 4)) ≠ sumF (mid d (off : Int) ((off : Int) + (v : Int)))
 · rw [if_pos h3] at h; cases congrArg (fun p => p.2.2) h
 rw [if_neg h3] at h
 have hy : mid d (off : Int) ((off : Int) + (v : Int)) = y := congrArg (fun p => p.1) h
 have hnx : (off : Int) + (v : Int) + 4 = nx := congrArg (fun p => p.2.1) h
 have hyl : y.length = v := by rw [← hy]; unfold mid; rw [List.length_drop, List.length_take]; omega
 have hyB : areBytesN y = true := by rw [← hy]; unfold mid; exact areBytesN_drop (areBytesN_take hB _) _
 rw [hy] at h3
 have h3' : be4 (mid d ((off : Int) + (v : Int)) ((off : Int) + (v : Int) + 4)) = sumF y := by simpa using h3
 have hq : be (sumF y) = mid d ((off : Int) + (v : Int)) ((off : Int) + (v : Int) + 4) := by
  rw [← h3']
  exact be_be4 _ (by unfold mid; rw [List.length_drop, List.length_take]; omega) (by unfold mid; exact areBytesN_drop (areBytesN_take hB _) _)
 refine ⟨by omega, hyB, by rw [frameF_length, hyl, ← v5]; omega, d.drop (off + v + 4), ?_⟩
 unfold frameF
 rw [hyl, hq, ← hy]
 unfold mid
 rw [show (off : Int).toNat = off by omega, show ((off : Int) + (v : Int)).toNat = off + v by omega, show ((off : Int) + (v : Int) + 4).toNat = off + v + 4 by omega]
 have t1 : vb v = d.take off := by
  conv => rhs; rw [v4]
  rw [v5, List.take_left]
 rw [t1]
 have t2 : d.take off ++ (d.take (off + v)).drop off = d.take (off + v) := by
  have := List.take_append_drop off (d.take (off + v))
  rwa [List.take_take, Nat.min_eq_left (by omega)] at this
 have t3 : d.take (off + v) ++ (d.take (off + v + 4)).drop (off + v) = d.take (off + v + 4) := by
  have := List.take_append_drop (off + v) (d.take (off + v + 4))
  rwa [List.take_take, Nat.min_eq_left (by omega)] at this
 rw [t2, t3, List.take_append_drop]
def rowOfFrames (fs : List (List Int)) : List Int := fs.flatMap frameF
end Go.Proofs.Ytmbnjgnmblgjoaa.Man
end
