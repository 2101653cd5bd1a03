/- A loop each of whose rounds ranges over a function leaves as many marks among its activation's deferred calls: what they are, and how the function leaves with them. Over any program. -/
import Derived.Test.YtmbnjgnmblgjoaaRange
namespace Go.Proofs.Ytmbnjgnmblgjoaa.Man
open Go.RowKit
set_option linter.unusedVariables false
set_option linter.unusedSimpArgs false

/-- The marks of such loops, the last one first: each names a block of its own from n0 on, which holds no call. -/
def Marks (n0 : Nat) : List Deferred → World → Prop
  | [], _ => True
  | d :: ds, W => (∃ D, d = { target := .collected D, args := #[] } ∧ n0 ≤ D ∧ W.heap[D]? = some (.deferred (some [])) ∧ ∀ d' ∈ ds, ∀ D', d'.target = .collected D' → D' < D) ∧ Marks n0 ds W

theorem Marks.lt {n0 : Nat} : ∀ {ds : List Deferred} {W : World}, Marks n0 ds W → ∀ d ∈ ds, ∀ D, d.target = .collected D → D < W.heap.size
  | [], _, _, d, hd, _, _ => by cases hd
  | d0 :: ds, W, ⟨⟨D0, h0, _, hb, _⟩, hr⟩, d, hd, D, hD => by
    rcases List.mem_cons.1 hd with rfl | hd
    · rw [h0] at hD; simp at hD; subst hD; exact (Array.getElem?_eq_some_iff.1 hb).1
    · exact Marks.lt hr d hd D hD

/-- They stay where what is no cells stays. -/
theorem Marks.kept {n0 : Nat} : ∀ {ds : List Deferred} {W W' : World}, Marks n0 ds W → (∀ (k : Nat) (o : Obj), n0 ≤ k → W.heap[k]? = some o → o.isCells = false → W'.heap[k]? = some o) → Marks n0 ds W'
  | [], _, _, _, _ => trivial
  | d0 :: ds, W, W', ⟨⟨D0, h0, hn, hb, hl⟩, hr⟩, h => ⟨⟨D0, h0, hn, h _ _ hn hb rfl, hl⟩, Marks.kept hr h⟩

theorem Marks.kept_lt {n0 B : Nat} : ∀ {ds : List Deferred} {W W' : World}, Marks n0 ds W → (∀ d ∈ ds, ∀ D, d.target = .collected D → D < B) → (∀ k, k < B → W'.heap[k]? = W.heap[k]?) → Marks n0 ds W'
  | [], _, _, _, _, _ => trivial
  | d0 :: ds, W, W', ⟨⟨D0, h0, hn, hb, hl⟩, hr⟩, hB, h => ⟨⟨D0, h0, hn, (h _ (hB d0 (by simp) D0 (by rw [h0]))).trans hb, hl⟩, Marks.kept_lt hr (fun d hd => hB d (List.mem_cons_of_mem _ hd)) h⟩

theorem Marks.push {n0 : Nat} {ds : List Deferred} {W : World} {D : Nat} (h : Marks n0 ds W) (hn : n0 ≤ D) (hb : W.heap[D]? = some (.deferred (some []))) (hl : ∀ d ∈ ds, ∀ D', d.target = .collected D' → D' < D) :
    Marks n0 ({ target := .collected D, args := #[] } :: ds) W := ⟨⟨D, rfl, hn, hb, hl⟩, h⟩

/-- What is no cells turns no box, and no row of the call's own. -/
theorem boxed_nc {W W' : World} {row : Option Nat} {B : Nat} {t : TypeId} {v : Value} (h : Boxed W B t v) (hg : W.grownBy W' row) (hr : ∀ r, row = some r → ∃ o : Obj, W.heap[r]? = some o ∧ o.isCells = false) : Boxed W' B t v :=
  h.kept hg (fun e => by obtain ⟨o, ho, hc⟩ := hr B e.symm; rw [show W.heap[B]? = _ from h] at ho; cases ho; cases hc)
theorem own_nc {W W' : World} {row : Option Nat} {base : Nat} {e : TypeId} {size n : Nat} {v : Value} {xs : List Value} (h : W.ownsRow base e size v n xs) (hg : W.grownBy W' row) (hr : ∀ r, row = some r → ∃ o : Obj, W.heap[r]? = some o ∧ o.isCells = false) : W'.ownsRow base e size v n xs := by
  refine h.kept hg ?_
  rcases h.2 with ⟨rfl, _⟩ | ⟨g, cap, cur, rfl, _, hgb, _⟩
  · exact .inl rfl
  · refine .inr (fun e => ?_)
    simp only [Value.ownBlock] at e
    obtain ⟨o, ho, hc⟩ := hr g e.symm
    rw [hgb] at ho; cases ho; cases hc
/-- .. and of a box or a row that is made of cells nothing turns where blocks that are no cells are shut. -/
theorem own_move_ {W W' : World} {base : Nat} {e : TypeId} {size n : Nat} {v : Value} {xs : List Value} (h : W.ownsRow base e size v n xs) (hm : ∀ (k : Nat) (o : Obj), W.heap[k]? = some o → o.isCells = true → W'.heap[k]? = some o) : W'.ownsRow base e size v n xs := by
  obtain ⟨h1, h2⟩ := h
  refine ⟨h1, ?_⟩
  rcases h2 with h2 | ⟨g, cap, cur, rfl, hg, hh, r⟩
  · exact .inl h2
  · exact .inr ⟨g, cap, cur, rfl, hg, hm _ _ hh rfl, r⟩

/-- W' is W, with some blocks from n0 on that are no cells turned. -/
structure Shut (n0 : Nat) (W W' : World) : Prop where
  os : W'.os = W.os
  tape : W'.tape = W.tape
  output : W'.output = W.output
  size : W'.heap.size = W.heap.size
  block : ∀ k, k < n0 → W'.heap[k]? = W.heap[k]?
  cells : ∀ (k : Nat) (o : Obj), W.heap[k]? = some o → o.isCells = true → W'.heap[k]? = some o
theorem Shut.refl (n0 : Nat) (W : World) : Shut n0 W W := ⟨rfl, rfl, rfl, rfl, fun _ _ => rfl, fun _ _ h _ => h⟩
theorem Shut.below {n0 : Nat} {W W' : World} (h : Shut n0 W W') : Below n0 W W' := ⟨h.os, h.tape, h.output, by rw [h.size]; exact Nat.le_refl _, h.block⟩
theorem Shut.put {n0 : Nat} {W : World} {D : Nat} {o : Obj} (o' : Obj) (hn : n0 ≤ D) (hD : W.heap[D]? = some o) (ho : o.isCells = false) : Shut n0 W (W.putObj D o') :=
  ⟨rfl, rfl, rfl, by simp, fun k hk => World.putObj_heap_other (by omega), fun k o2 h2 hc => (World.putObj_heap_other (fun e => by subst e; rw [hD] at h2; cases h2; rw [ho] at hc; cases hc)).trans h2⟩
theorem Shut.trans {n0 : Nat} {A B C : World} (h : Shut n0 A B) (k : Shut n0 B C) : Shut n0 A C :=
  ⟨k.os.trans h.os, k.tape.trans h.tape, k.output.trans h.output, k.size.trans h.size, fun i hi => (k.block i hi).trans (h.block i hi), fun i o ho hc => k.cells i o (h.cells i o ho hc) hc⟩

theorem leaves_marks {F : Fence} {n : Nat} {P : Program} {fn : Func} {tmps : Array Value} {R : Ending → World → Prop} {n0 : Nat} : ∀ (ds : List Deferred) (W : World), Marks n0 ds W →
    (∀ W', Shut n0 W W' → LeavesInM F n P fn tmps R [] .returning W') → LeavesInM F n P fn tmps R ds .returning W
  | [], W, _, h => h W (Shut.refl _ _)
  | d :: ds, W, ⟨⟨D, hd, hn, hb, hl⟩, hr⟩, h => by
    refine ⟨by simp, .inl ⟨D, _, by rw [hd], run_takeDeferred hb, ?_⟩⟩
    have hs : Shut n0 W (W.putObj D (.deferred none)) := Shut.put _ hn hb rfl
    refine leaves_marks ds _ ?_ (fun W' h' => h W' (hs.trans h'))
    exact marks_put ds hr hl
where
  marks_put {D : Nat} {W : World} {n0 : Nat} : ∀ (ds : List Deferred), Marks n0 ds W → (∀ d' ∈ ds, ∀ D', d'.target = .collected D' → D' < D) → Marks n0 ds (W.putObj D (.deferred none))
    | [], _, _ => trivial
    | d :: ds, ⟨⟨D0, h0, hn, hb, hl⟩, hr⟩, hlt => ⟨⟨D0, h0, hn, (World.putObj_heap_other (by have := hlt d (by simp) D0 (by rw [h0]); omega)).trans hb, hl⟩, marks_put ds hr (fun d' h' => hlt d' (List.mem_cons_of_mem _ h'))⟩

end Go.Proofs.Ytmbnjgnmblgjoaa.Man
