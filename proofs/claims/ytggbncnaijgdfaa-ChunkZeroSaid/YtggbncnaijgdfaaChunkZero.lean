/- The statement ChunkZero, stepped through: a chunk that nobody made answers nothing. -/
import Derived.Test.YtggbncnaijgdfaaProg
import Derived.Below
import Derived.RangeFuncBox
import Derived.OneCell
import Derived.WalkKit
import Derived.KernelRfl
import Derived.RowKit3
import Derived.Deep.LoopGhost
import Derived.Deep.QuietTactic
import Derived.BigQuiet
import Derived.RegionTactic
import Derived.RegionCalls
import Derived.Deep.RegionWith
import Derived.Outline
import Derived.StillTailTactics
import Derived.Lib.Hide
import Derived.Deep.DeepCutAuto
import Derived.Deep.CutBlock
import Derived.Test.YtggbncnaijgdfaaWWords
import Derived.Test.YtggbncnaijgdfaaWLast
namespace Go.Proofs.Ytggbncnaijgdfaa.Man
open Go.RowKit Go.Proofs.YtggbncnaijgdfaaW.PrintWords Go.Proofs.YtggbncnaijgdfaaW.PrintLast
set_option linter.unusedVariables false
set_option linter.unusedSimpArgs false

/-- A chunk lies in block B. -/
def ChunkAt (w : World) (B : Nat) (h : Int) (v : Value) (n : Int) : Prop := w.heap[B]? = some (.cells #[.int .i64 h, v, .int .i64 n] 34 (0, 0))
theorem ChunkAt.c0 {w : World} {B : Nat} {v : Value} {s m : Int} (h : ChunkAt w B s v m) : w.cell? ⟨B, 0, none⟩ = some (.int .i64 s) := by simp [World.cell?, show w.heap[B]? = _ from h]
theorem ChunkAt.c1 {w : World} {B : Nat} {v : Value} {s m : Int} (h : ChunkAt w B s v m) : w.cell? ⟨B, 1, none⟩ = some v := by simp [World.cell?, show w.heap[B]? = _ from h]
theorem ChunkAt.c2 {w : World} {B : Nat} {v : Value} {s m : Int} (h : ChunkAt w B s v m) : w.cell? ⟨B, 2, none⟩ = some (.int .i64 m) := by simp [World.cell?, show w.heap[B]? = _ from h]

/-! ### A chunk that nobody made -/
def NoChunk (w : World) (p : Option Addr) : Prop := p = none ∨ ∃ B, p = some ⟨B, 0, none⟩ ∧ ChunkAt w B 0 (.slice none 0 0) 0
theorem may_no (w : World) (p : Option Addr) (h : NoChunk w p) : Calls Try.prog 32 #[.pointer p] w fun e w' => e = .returned (.int .i64 7) ∧ w = w' := by
  rcases h with rfl | ⟨B, rfl, h⟩
  · go_enter Try.func32, Try.ntmps32
    go_wp2
    go_ret
    exact ⟨rfl, rfl⟩
  · have c0 := h.c0
    have c1 := h.c1
    have c2 := h.c2
    go_enter Try.func32, Try.ntmps32
    go_wp2
    go_ret
    exact ⟨rfl, rfl⟩
theorem feed_no (w : World) (p : Option Addr) (A : Option Addr) (l c : Nat) (h : NoChunk w p) : Calls Try.prog 10 #[.pointer p, .slice A l c] w fun e w' => e = .returned (.tuple #[.slice none 0 0, .int .i64 7]) ∧ w = w' := by
  have H := Lib.hid h
  clear h
  go_enter Try.func10, Try.ntmps10
  go_wp2_with (go_at_call 32; refine (may_no _ _ H.out).mono ?_; rintro e w' ⟨rfl, rfl⟩)
  go_ret2
  exact ⟨rfl, rfl⟩
theorem close_no (w : World) (p : Option Addr) (h : NoChunk w p) : Calls Try.prog 15 #[.pointer p] w fun e w' => e = .returned (.int .i64 7) ∧ w = w' := by
  have H := Lib.hid h
  clear h
  go_enter Try.func15, Try.ntmps15
  go_wp2_with (go_at_call 32; refine (may_no _ _ H.out).mono ?_; rintro e w' ⟨rfl, rfl⟩)
  go_ret
  exact ⟨rfl, rfl⟩
theorem waiting_no (w : World) (p : Option Addr) (h : NoChunk w p) : Calls Try.prog 13 #[.pointer p] w fun e w' => e = .returned (.int .i64 0) ∧ w = w' := by
  rcases h with rfl | ⟨B, rfl, h⟩
  · go_enter Try.func13, Try.ntmps13
    go_wp2
    go_ret
    exact ⟨rfl, rfl⟩
  · have c0 := h.c0
    have c1 := h.c1
    have c2 := h.c2
    go_enter Try.func13, Try.ntmps13
    go_wp2
    go_ret
    exact ⟨rfl, rfl⟩
theorem frames_no (w : World) (p : Option Addr) (h : NoChunk w p) : Calls Try.prog 14 #[.pointer p] w fun e w' => e = .returned (.int .i64 0) ∧ w = w' := by
  rcases h with rfl | ⟨B, rfl, h⟩
  · go_enter Try.func14, Try.ntmps14
    go_wp2
    go_ret
    exact ⟨rfl, rfl⟩
  · have c0 := h.c0
    have c1 := h.c1
    have c2 := h.c2
    go_enter Try.func14, Try.ntmps14
    go_wp2
    go_ret
    exact ⟨rfl, rfl⟩

set_option maxHeartbeats 4000000 in
set_option maxRecDepth 100000 in
theorem zero_walk (a0 : Option Addr) (len0 cap0 : Nat) (z0 : List Int) (w : World) {P Q : Prop} (_ : P) (_ : Q) :
    Calls Try.prog 4 #[.slice a0 len0 cap0] w fun e w' => e = .returned (.bool true) ∧ Below w.heap.size w w' := by
  have hnew : ChunkAt (w.alloc (.cells #[.int .i64 0, .slice none 0 0, .int .i64 0] 34)) w.heap.size 0 (.slice none 0 0) 0 := World.alloc_heap_new w _
  have HC : Hid (∃ B, some (⟨w.heap.size, 0, none⟩ : Addr) = some ⟨B, 0, none⟩ ∧ ChunkAt (w.alloc (.cells #[.int .i64 0, .slice none 0 0, .int .i64 0] 34)) B 0 (.slice none 0 0) 0) := Lib.hid ⟨_, rfl, hnew⟩
  clear hnew
  go_enter Try.func4, Try.ntmps4
  go_wp2_with (first
    | (go_at_call 10; refine (feed_no _ _ _ _ _ (by first | exact .inl rfl | exact .inr HC.out)).mono ?_; rintro e w' ⟨rfl, rfl⟩)
    | (go_at_call 15; refine (close_no _ _ (by first | exact .inl rfl | exact .inr HC.out)).mono ?_; rintro e w' ⟨rfl, rfl⟩)
    | (go_at_call 13; refine (waiting_no _ _ (by first | exact .inl rfl | exact .inr HC.out)).mono ?_; rintro e w' ⟨rfl, rfl⟩)
    | (go_at_call 14; refine (frames_no _ _ (by first | exact .inl rfl | exact .inr HC.out)).mono ?_; rintro e w' ⟨rfl, rfl⟩))
  go_ret
  exact ⟨rfl, (Below.refl _ _).alloc (Nat.le_refl _) _⟩

end Go.Proofs.Ytggbncnaijgdfaa.Man
