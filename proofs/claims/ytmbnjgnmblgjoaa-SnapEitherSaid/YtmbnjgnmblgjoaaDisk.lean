/- The given program's disk (layer 17), method by method: what each comes to on a disk that nobody made. -/
import Derived.Test.YtmbnjgnmblgjoaaProg
import Derived.Below
import Derived.RangeFuncBox
import Derived.OneCell
import Derived.WalkKit
import Derived.KernelRfl
import Derived.RowKit3
import Derived.Deep.LoopGhost
import Derived.Deep.QuietTactic
import Derived.BigQuiet
import Derived.RegionTactic
import Derived.RegionCalls
import Derived.Deep.RegionWith
import Derived.Outline
import Derived.StillTailTactics
import Derived.Lib.Hide
import Derived.Deep.DeepCutAuto
import Derived.Deep.CutBlock
import Derived.Test.YtmbnjgnmblgjoaaWWords
import Derived.Test.YtmbnjgnmblgjoaaWLast
namespace Go.Proofs.Ytmbnjgnmblgjoaa.Man
open Go.RowKit Go.Proofs.YtmbnjgnmblgjoaaW.PrintWords Go.Proofs.YtmbnjgnmblgjoaaW.PrintLast
set_option linter.unusedVariables false
set_option linter.unusedSimpArgs false

/-- A disk lies in block B. -/
def DiskAt (w : World) (B : Nat) (v : Value) (s m : Int) (made : Bool) : Prop := w.heap[B]? = some (.cells #[v, .int .i64 s, .int .i64 m, .bool made] 148 (0, 0))
theorem DiskAt.c0 {w : World} {B : Nat} {v : Value} {s m : Int} {made : Bool} (h : DiskAt w B v s m made) : w.cell? ⟨B, 0, none⟩ = some v := by simp [World.cell?, show w.heap[B]? = _ from h]
theorem DiskAt.c1 {w : World} {B : Nat} {v : Value} {s m : Int} {made : Bool} (h : DiskAt w B v s m made) : w.cell? ⟨B, 1, none⟩ = some (.int .i64 s) := by simp [World.cell?, show w.heap[B]? = _ from h]
theorem DiskAt.c2 {w : World} {B : Nat} {v : Value} {s m : Int} {made : Bool} (h : DiskAt w B v s m made) : w.cell? ⟨B, 2, none⟩ = some (.int .i64 m) := by simp [World.cell?, show w.heap[B]? = _ from h]
theorem DiskAt.c3 {w : World} {B : Nat} {v : Value} {s m : Int} {made : Bool} (h : DiskAt w B v s m made) : w.cell? ⟨B, 3, none⟩ = some (.bool made) := by simp [World.cell?, show w.heap[B]? = _ from h]

theorem none_nil (w : World) : Calls Try.prog 99 #[.pointer none] w fun e w' => e = .returned (.bool true) ∧ w = w' := by
  go_enter Try.func99, Try.ntmps99
  go_wp2
  go_ret
  exact ⟨rfl, rfl⟩
theorem none_at (w : World) (B : Nat) (v : Value) (s m : Int) (made : Bool) (h : DiskAt w B v s m made) : Calls Try.prog 99 #[.pointer (some ⟨B, 0, none⟩)] w fun e w' => e = .returned (.bool (!made)) ∧ w = w' := by
  have c3 := h.c3
  go_enter Try.func99, Try.ntmps99
  go_wp2
  go_ret
  exact ⟨rfl, rfl⟩

/-! ### A disk that nobody made -/
def NoDisk (w : World) (p : Option Addr) : Prop := p = none ∨ ∃ B v s m, p = some ⟨B, 0, none⟩ ∧ DiskAt w B v s m false
theorem none_no (w : World) (p : Option Addr) (h : NoDisk w p) : Calls Try.prog 99 #[.pointer p] w fun e w' => e = .returned (.bool true) ∧ w = w' := by
  rcases h with rfl | ⟨B, v, s, m, rfl, h⟩
  · exact none_nil w
  · exact none_at w B v s m false h
theorem append_no (w : World) (p : Option Addr) (A : Option Addr) (l c : Nat) (h : NoDisk w p) : Calls Try.prog 29 #[.pointer p, .slice A l c] w fun e w' => e = .returned (.int .i64 7) ∧ w = w' := by
  have H := Lib.hid h
  clear h
  go_enter Try.func29, Try.ntmps29
  go_wp2_with (go_at_call 99; refine (none_no _ _ H.out).mono ?_; rintro e w' ⟨rfl, rfl⟩)
  go_ret
  exact ⟨rfl, rfl⟩
theorem sync_no (w : World) (p : Option Addr) (h : NoDisk w p) : Calls Try.prog 32 #[.pointer p] w fun e w' => e = .returned (.int .i64 7) ∧ w = w' := by
  have H := Lib.hid h
  clear h
  go_enter Try.func32, Try.ntmps32
  go_wp2_with (go_at_call 99; refine (none_no _ _ H.out).mono ?_; rintro e w' ⟨rfl, rfl⟩)
  go_ret
  exact ⟨rfl, rfl⟩
theorem crash_no (w : World) (p : Option Addr) (n : Int) (h : NoDisk w p) : Calls Try.prog 33 #[.pointer p, .int .i64 n] w fun e w' => e = .returned (.int .i64 7) ∧ w = w' := by
  have H := Lib.hid h
  clear h
  go_enter Try.func33, Try.ntmps33
  go_wp2_with (go_at_call 99; refine (none_no _ _ H.out).mono ?_; rintro e w' ⟨rfl, rfl⟩)
  go_ret
  exact ⟨rfl, rfl⟩
theorem cut_no (w : World) (p : Option Addr) (n : Int) (h : NoDisk w p) : Calls Try.prog 35 #[.pointer p, .int .i64 n] w fun e w' => e = .returned (.int .i64 7) ∧ w = w' := by
  have H := Lib.hid h
  clear h
  go_enter Try.func35, Try.ntmps35
  go_wp2_with (go_at_call 99; refine (none_no _ _ H.out).mono ?_; rintro e w' ⟨rfl, rfl⟩)
  go_ret
  exact ⟨rfl, rfl⟩
theorem bytes_no (w : World) (p : Option Addr) (h : NoDisk w p) : Calls Try.prog 38 #[.pointer p] w fun e w' => e = .returned (.slice none 0 0) ∧ w = w' := by
  have H := Lib.hid h
  clear h
  go_enter Try.func38, Try.ntmps38
  go_wp2_with (go_at_call 99; refine (none_no _ _ H.out).mono ?_; rintro e w' ⟨rfl, rfl⟩)
  go_ret
  exact ⟨rfl, rfl⟩
theorem len_no (w : World) (p : Option Addr) (h : NoDisk w p) : Calls Try.prog 39 #[.pointer p] w fun e w' => e = .returned (.int .i64 0) ∧ w = w' := by
  have H := Lib.hid h
  clear h
  go_enter Try.func39, Try.ntmps39
  go_wp2_with (go_at_call 99; refine (none_no _ _ H.out).mono ?_; rintro e w' ⟨rfl, rfl⟩)
  go_ret
  exact ⟨rfl, rfl⟩
theorem sure_no (w : World) (p : Option Addr) (h : NoDisk w p) : Calls Try.prog 40 #[.pointer p] w fun e w' => e = .returned (.int .i64 0) ∧ w = w' := by
  have H := Lib.hid h
  clear h
  go_enter Try.func40, Try.ntmps40
  go_wp2_with (go_at_call 99; refine (none_no _ _ H.out).mono ?_; rintro e w' ⟨rfl, rfl⟩)
  go_ret
  exact ⟨rfl, rfl⟩
theorem copy_no (w : World) (p : Option Addr) (h : NoDisk w p) : Calls Try.prog 37 #[.pointer p] w fun e w' => e = .returned (.pointer none) ∧ w = w' := by
  have H := Lib.hid h
  clear h
  go_enter Try.func37, Try.ntmps37
  go_wp2_with (go_at_call 99; refine (none_no _ _ H.out).mono ?_; rintro e w' ⟨rfl, rfl⟩)
  go_ret
  exact ⟨rfl, rfl⟩

end Go.Proofs.Ytmbnjgnmblgjoaa.Man
