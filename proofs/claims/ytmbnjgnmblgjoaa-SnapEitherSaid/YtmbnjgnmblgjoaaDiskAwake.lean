/- The disk's statements' 'awake': true. -/
import Derived.Test.YtmbnjgnmblgjoaaDiskCopy
namespace Go.Proofs.Ytmbnjgnmblgjoaa.Man
open Go.RowKit Go.Proofs.YtmbnjgnmblgjoaaW.PrintWords Go.Proofs.YtmbnjgnmblgjoaaW.PrintLast
set_option linter.unusedVariables false
set_option linter.unusedSimpArgs false
set_option maxRecDepth 100000

theorem str_of {w : World} {A : Option Addr} {n : Nat} {c : Nat} {xs : List Int} (h : Kd.C (Kd.int .u8) w A n xs) : (convert 27 9 (.slice A n c)).run Try.prog w = .ok (.string (strOfNums xs)) w :=
  Kd.C_string (e := 5) (by kernel_rfl) (by kernel_rfl) (by kernel_rfl) h
theorem one_byte (w : World) : Kd.C (Kd.int .u8) (w.alloc (.cells #[.int .u8 1] 5)) (some ⟨w.heap.size, 0, none⟩) ([1] : List Int).length [1] :=
  (DRow.of_own (base := 0) (v := .slice (some ⟨w.heap.size, 0, none⟩) 1 1) (xs := [1]) ⟨rfl, .inr ⟨_, 1, _, rfl, Nat.zero_le _, World.alloc_heap_new w _, by decide, by decide, rfl, rfl⟩⟩).C.2
theorem awake_is (w : World) : Calls Try.prog 28 #[] w fun e w' => e = .returned (.bool true) ∧ Below w.heap.size w w' := by
  go_enter Try.func28, Try.ntmps28
  go_wp2_with (first
    | (go_at_call 26; refine (new_is _ _ w.heap.size (Nat.le_refl _) (by decide) (by decide)).mono ?_; rintro e w1 ⟨rfl, hd, hb⟩; have HD1 := Lib.hid (hd.below ((Below.refl _ _).alloc (Nat.le_refl _) (.cells #[.int .u8 1] 5)) (Nat.le_refl _)); have HC := Lib.hid (one_byte w1); have HB1 := Lib.hid (hb.alloc hb.size (.cells #[.int .u8 1] 5)); clear hd hb)
    | (go_at_call 29; refine (append_is HD1.out _ 1 HC.out (by decide)).mono ?_; rintro e w2 ⟨rfl, v2, hd, hs⟩; have HD2 := Lib.hid hd; have HB2 := Lib.hid (hs.below HD1.out); clear hd hs)
    | (go_at_call 39; refine (len_is HD2.out).mono ?_; rintro e w3 ⟨rfl, rfl⟩))
  go_ret
  exact ⟨rfl, HB1.out.trans HB2.out⟩

end Go.Proofs.Ytmbnjgnmblgjoaa.Man
