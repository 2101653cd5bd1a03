/- The statement JournalZero, stepped through: a journal that nobody made answers nothing. -/
import Derived.Test.YtmnpbihcjjnncaaDisk
namespace Go.Proofs.Ytmnpbihcjjnncaa.Man
open Go.RowKit Go.Proofs.YtmnpbihcjjnncaaW.PrintWords Go.Proofs.YtmnpbihcjjnncaaW.PrintLast
set_option linter.unusedVariables false
set_option linter.unusedSimpArgs false

/-! ### A journal that nobody made -/
def JournalAt (w : World) (B : Nat) : Prop := w.heap[B]? = some (.cells #[.pointer none, .slice none 0 0] 85 (0, 0))
theorem JournalAt.c0 {w : World} {B : Nat} (h : JournalAt w B) : w.cell? ⟨B, 0, none⟩ = some (.pointer none) := by simp [World.cell?, show w.heap[B]? = _ from h]
def NoJournal (w : World) (p : Option Addr) : Prop := p = none ∨ ∃ B, p = some ⟨B, 0, none⟩ ∧ JournalAt w B
theorem jnone_no (w : World) (p : Option Addr) (h : NoJournal w p) : Calls Try.prog 98 #[.pointer p] w fun e w' => e = .returned (.bool true) ∧ w = w' := by
  rcases h with rfl | ⟨B, rfl, h⟩
  · go_enter Try.func98, Try.ntmps98
    go_wp2
    go_ret
    exact ⟨rfl, rfl⟩
  · have c0 := h.c0
    go_enter Try.func98, Try.ntmps98
    go_wp2
    go_ret
    exact ⟨rfl, rfl⟩
theorem jappend_no (w : World) (p : Option Addr) (A : Option Addr) (l c : Nat) (h : NoJournal w p) : Calls Try.prog 45 #[.pointer p, .slice A l c] w fun e w' => e = .returned (.int .i64 7) ∧ w = w' := by
  have H := Lib.hid h
  clear h
  go_enter Try.func45, Try.ntmps45
  go_wp2_with (go_at_call 98; refine (jnone_no _ _ H.out).mono ?_; rintro e w' ⟨rfl, rfl⟩)
  go_ret
  exact ⟨rfl, rfl⟩
theorem jsync_no (w : World) (p : Option Addr) (h : NoJournal w p) : Calls Try.prog 47 #[.pointer p] w fun e w' => e = .returned (.int .i64 7) ∧ w = w' := by
  have H := Lib.hid h
  clear h
  go_enter Try.func47, Try.ntmps47
  go_wp2_with (go_at_call 98; refine (jnone_no _ _ H.out).mono ?_; rintro e w' ⟨rfl, rfl⟩)
  go_ret
  exact ⟨rfl, rfl⟩
theorem jcrash_no (w : World) (p : Option Addr) (n : Int) (h : NoJournal w p) : Calls Try.prog 48 #[.pointer p, .int .i64 n] w fun e w' => e = .returned (.tuple #[.pointer none, .slice none 0 0, .int .i64 7]) ∧ w = w' := by
  have H := Lib.hid h
  clear h
  go_enter Try.func48, Try.ntmps48
  go_wp2_with (go_at_call 98; refine (jnone_no _ _ H.out).mono ?_; rintro e w' ⟨rfl, rfl⟩)
  go_ret3
  exact ⟨rfl, rfl⟩
theorem jlen_no (w : World) (p : Option Addr) (h : NoJournal w p) : Calls Try.prog 43 #[.pointer p] w fun e w' => e = .returned (.int .i64 0) ∧ w = w' := by
  have H := Lib.hid h
  clear h
  go_enter Try.func43, Try.ntmps43
  go_wp2_with (go_at_call 98; refine (jnone_no _ _ H.out).mono ?_; rintro e w' ⟨rfl, rfl⟩)
  go_ret
  exact ⟨rfl, rfl⟩
theorem jsure_no (w : World) (p : Option Addr) (h : NoJournal w p) : Calls Try.prog 49 #[.pointer p] w fun e w' => e = .returned (.int .i64 0) ∧ w = w' := by
  have H := Lib.hid h
  clear h
  go_enter Try.func49, Try.ntmps49
  go_wp2_with (go_at_call 98; refine (jnone_no _ _ H.out).mono ?_; rintro e w' ⟨rfl, rfl⟩)
  go_ret
  exact ⟨rfl, rfl⟩
theorem jcut_no (w : World) (p : Option Addr) (n : Int) (h : NoJournal w p) : Calls Try.prog 50 #[.pointer p, .int .i64 n] w fun e w' => e = .returned (.int .i64 7) ∧ w = w' := by
  have H := Lib.hid h
  clear h
  go_enter Try.func50, Try.ntmps50
  go_wp2_with (go_at_call 98; refine (jnone_no _ _ H.out).mono ?_; rintro e w' ⟨rfl, rfl⟩)
  go_ret
  exact ⟨rfl, rfl⟩
theorem jdisk_no (w : World) (p : Option Addr) (h : NoJournal w p) : Calls Try.prog 51 #[.pointer p] w fun e w' => e = .returned (.pointer none) ∧ w = w' := by
  have H := Lib.hid h
  clear h
  go_enter Try.func51, Try.ntmps51
  go_wp2_with (go_at_call 98; refine (jnone_no _ _ H.out).mono ?_; rintro e w' ⟨rfl, rfl⟩)
  go_ret
  exact ⟨rfl, rfl⟩
theorem jopen_no (w : World) : Calls Try.prog 39 #[.pointer none] w fun e w' => e = .returned (.tuple #[.pointer none, .slice none 0 0, .int .i64 7]) ∧ w = w' := by
  go_enter Try.func39, Try.ntmps39
  go_wp2_with (go_at_call 37; refine (append_no _ _ _ _ _ (.inl rfl)).mono ?_; rintro e w' ⟨rfl, rfl⟩)
  go_ret3
  exact ⟨rfl, rfl⟩

set_option maxHeartbeats 4000000 in
set_option maxRecDepth 100000 in
theorem zero_walk (a0 : Option Addr) (len0 cap0 : Nat) (n : Int) (w : World) {P : Prop} (_ : P) :
    Calls Try.prog 13 #[.slice a0 len0 cap0, .int .i64 n] w fun e w' => e = .returned (.bool true) ∧ Below w.heap.size w w' := by
  have hnew : JournalAt (w.alloc (.cells #[.pointer none, .slice none 0 0] 85)) w.heap.size := World.alloc_heap_new w _
  have HC := Lib.hid hnew
  clear hnew
  go_enter Try.func13, Try.ntmps13
  go_wp2_with (first
    | (go_at_call 39; refine (jopen_no _).mono ?_; rintro e w' ⟨rfl, rfl⟩)
    | (go_at_call 45; refine (jappend_no _ _ _ _ _ (by first | exact .inl rfl | exact .inr ⟨_, rfl, HC.out⟩)).mono ?_; rintro e w' ⟨rfl, rfl⟩)
    | (go_at_call 47; refine (jsync_no _ _ (by first | exact .inl rfl | exact .inr ⟨_, rfl, HC.out⟩)).mono ?_; rintro e w' ⟨rfl, rfl⟩)
    | (go_at_call 48; refine (jcrash_no _ _ _ (by first | exact .inl rfl | exact .inr ⟨_, rfl, HC.out⟩)).mono ?_; rintro e w' ⟨rfl, rfl⟩)
    | (go_at_call 50; refine (jcut_no _ _ _ (by first | exact .inl rfl | exact .inr ⟨_, rfl, HC.out⟩)).mono ?_; rintro e w' ⟨rfl, rfl⟩)
    | (go_at_call 43; refine (jlen_no _ _ (by first | exact .inl rfl | exact .inr ⟨_, rfl, HC.out⟩)).mono ?_; rintro e w' ⟨rfl, rfl⟩)
    | (go_at_call 49; refine (jsure_no _ _ (by first | exact .inl rfl | exact .inr ⟨_, rfl, HC.out⟩)).mono ?_; rintro e w' ⟨rfl, rfl⟩)
    | (go_at_call 51; refine (jdisk_no _ _ (by first | exact .inl rfl | exact .inr ⟨_, rfl, HC.out⟩)).mono ?_; rintro e w' ⟨rfl, rfl⟩))
  go_ret
  exact ⟨rfl, (Below.refl _ _).alloc (Nat.le_refl _) _⟩

end Go.Proofs.Ytmnpbihcjjnncaa.Man
