/- The statement DiskZero, stepped through: a disk that nobody made answers nothing. -/
import Derived.Test.YtgiflkoinhbjhaaDisk
namespace Go.Proofs.Ytgiflkoinhbjhaa.Man
open Go.RowKit Go.Proofs.YtgiflkoinhbjhaaW.PrintWords Go.Proofs.YtgiflkoinhbjhaaW.PrintLast
set_option linter.unusedVariables false
set_option linter.unusedSimpArgs false

set_option maxHeartbeats 4000000 in
set_option maxRecDepth 100000 in
theorem zero_walk (a0 : Option Addr) (len0 cap0 : Nat) (n : Int) (w : World) :
    Calls Try.prog 11 #[.slice a0 len0 cap0, .int .i64 n] w fun e w' => e = .returned (.bool true) ∧ Below w.heap.size w w' := by
  have hnew : DiskAt (w.alloc (.cells #[.slice none 0 0, .int .i64 0, .int .i64 0, .bool false] 48)) w.heap.size (.slice none 0 0) 0 0 false := World.alloc_heap_new w _
  have HC : Hid (∃ B v s m, some (⟨w.heap.size, 0, none⟩ : Addr) = some ⟨B, 0, none⟩ ∧ DiskAt (w.alloc (.cells #[.slice none 0 0, .int .i64 0, .int .i64 0, .bool false] 48)) B v s m false) := Lib.hid ⟨_, _, _, _, rfl, hnew⟩
  clear hnew
  go_enter Try.func11, Try.ntmps11
  go_wp2_with (first
    | (go_at_call 28; refine (append_no _ _ _ _ _ (by first | exact .inl rfl | exact .inr HC.out)).mono ?_; rintro e w' ⟨rfl, rfl⟩)
    | (go_at_call 29; refine (sync_no _ _ (by first | exact .inl rfl | exact .inr HC.out)).mono ?_; rintro e w' ⟨rfl, rfl⟩)
    | (go_at_call 30; refine (crash_no _ _ _ (by first | exact .inl rfl | exact .inr HC.out)).mono ?_; rintro e w' ⟨rfl, rfl⟩)
    | (go_at_call 35; refine (cut_no _ _ _ (by first | exact .inl rfl | exact .inr HC.out)).mono ?_; rintro e w' ⟨rfl, rfl⟩)
    | (go_at_call 31; refine (bytes_no _ _ (by first | exact .inl rfl | exact .inr HC.out)).mono ?_; rintro e w' ⟨rfl, rfl⟩)
    | (go_at_call 33; refine (len_no _ _ (by first | exact .inl rfl | exact .inr HC.out)).mono ?_; rintro e w' ⟨rfl, rfl⟩)
    | (go_at_call 32; refine (sure_no _ _ (by first | exact .inl rfl | exact .inr HC.out)).mono ?_; rintro e w' ⟨rfl, rfl⟩)
    | (go_at_call 34; refine (copy_no _ _ (by first | exact .inl rfl | exact .inr HC.out)).mono ?_; rintro e w' ⟨rfl, rfl⟩))
  go_ret
  exact ⟨rfl, (Below.refl _ _).alloc (Nat.le_refl _) _⟩

theorem zero_row (a0 : Option Addr) (len0 cap0 : Nat) (z0 : List Int) (n : Int) (w : World) {P Q R : Prop} (_ : P) (_ : Q) (_ : R) :
    Calls Try.prog 11 #[.slice a0 len0 cap0, .int .i64 n] w fun e w' => e = .returned (.bool true) ∧ Below w.heap.size w w' := zero_walk a0 len0 cap0 n w

end Go.Proofs.Ytgiflkoinhbjhaa.Man
