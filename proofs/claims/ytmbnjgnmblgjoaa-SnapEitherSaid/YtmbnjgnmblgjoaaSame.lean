/- The statements' 'same' (layer 32) at two rows that read alike: true. And their 'awake': true. -/
import Derived.Test.YtmbnjgnmblgjoaaEatMath
import Derived.Test.YtmbnjgnmblgjoaaPair
namespace Go.Proofs.Ytmbnjgnmblgjoaa.Man
open Go.RowKit Go.Proofs.YtmbnjgnmblgjoaaW.PrintWords Go.Proofs.YtmbnjgnmblgjoaaW.PrintLast Go.Proofs.YtmbnjgnmblgjoaaW.PrintMore
set_option linter.unusedVariables false
set_option linter.unusedSimpArgs false
set_option maxRecDepth 100000

set_option maxHeartbeats 4000000 in
theorem same_yes (w : World) (A A' : Option Addr) (c c' : Nat) (os : List (List Int)) (hr : Kd.C (Kd.slice 5 (Kd.int .u8)) w A os.length os) (hr' : Kd.C (Kd.slice 5 (Kd.int .u8)) w A' os.length os) :
    Calls Try.prog 43 #[.slice A os.length c, .slice A' os.length c'] w fun e w' => e = .returned (.bool true) ∧ Below w.heap.size w w' := by
  have hl : os.length ≤ 9223372036854775807 := hr.2.1
  have HR := Lib.hid hr
  have HR' := Lib.hid hr'
  clear hr hr'
  go_enter Try.func43, Try.ntmps43
  go_wp2
  go_loopg [5] os.length (fun g s5 wr => ∃ i m : Nat, s5 = .int .i64 i ∧ i ≤ os.length ∧ g = os.length - i ∧ wr = w.drewN m)
  case atStart => exact ⟨0, 0, rfl, Nat.zero_le _, rfl, rfl⟩
  case round =>
    obtain ⟨i, m, rfl, hi, hg, rfl⟩ := hrel
    by_cases hlt : i < os.length
    · obtain ⟨ad, Ap, cp, e1, h1, _, r1⟩ := at_rows HR.out i hlt
      obtain ⟨ad', Ap', cp', e2, h2, _, r2⟩ := at_rows HR'.out i hlt
      subst e1; subst e2
      generalize os.getD i [] = x at h1 h2 r1 r2
      have t1 : ∀ q, (convert 27 9 (.slice Ap x.length cp)).run Try.prog (w.drewN q) = .ok (.string (strOfNums x)) (w.drewN q) := fun q => str_of (Kd.C_below r1 (pw_below_drewN (Below.refl _ _) q))
      have t2 : ∀ q, (convert 27 9 (.slice Ap' x.length cp')).run Try.prog (w.drewN q) = .ok (.string (strOfNums x)) (w.drewN q) := fun q => str_of (Kd.C_below r2 (pw_below_drewN (Below.refl _ _) q))
      clear r1 r2
      go_wp2
      go_quiet (fail)
      go_wp2
      go_roundg (os.length - (i + 1))
      case measure => omega
      case rel => exact ⟨i + 1, _, by go_num, by omega, rfl, rfl⟩
    · obtain rfl : i = os.length := by omega
      go_wp2
      go_ret
      exact ⟨rfl, pw_below_drewN (Below.refl _ _) m⟩
theorem eat5 : feedE ([] ++ [5]) = 0 ∧ feedH ([] ++ [5]) = 1 ∧ feedW ([] ++ [5]) = [5] := by decide +kernel
theorem C_byte (w : World) (n : Int) : Kd.C (Kd.int .u8) (w.alloc (.cells #[.int .u8 n] 5)) (some ⟨w.heap.size, 0, none⟩) ([n] : List Int).length [n] := C_box w .u8 n _
theorem awake32_is (w : World) : Calls Try.prog 44 #[] w fun e w' => e = .returned (.bool true) ∧ Below w.heap.size w w' := by
  obtain ⟨h1, h2, h3⟩ := eat5
  have H1 := Lib.hid h1
  have H2 := Lib.hid h2
  have H3 := Lib.hid h3
  clear h1 h2 h3
  go_enter Try.func44, Try.ntmps44
  go_wp2_with (first
    | (go_at_call 41; refine (chunkNew_is _).mono ?_; rintro e w1 ⟨rfl, hk, hb⟩; have HK1 := Lib.hid (hk.below ((Below.refl _ w1).alloc (Nat.le_refl _) (.cells #[.int .u8 5] 5)) (Nat.le_refl _)); have HB1 := Lib.hid (hb.alloc hb.size (.cells #[.int .u8 5] 5)); clear hk hb)
    | (go_at_call 42; refine (feed_is HK1.out (some ⟨w1.heap.size, 0, none⟩) 1 (C_byte w1 5) (by decide) (by decide) (by decide) (by decide) (by decide)).mono ?_; rintro e w2 ⟨o, v', rfl, ho, hk, hg⟩; rw [H1.out]; rw [H2.out, H3.out] at hk; obtain ⟨Ao, ko, rfl, _, _⟩ := Kd.R_reads ho; have HK2 := Lib.hid hk; have HG2 := Lib.hid hg; clear ho hk hg)
    | (go_at_call 45; refine (waiting_is HK2.out).mono ?_; rintro e w3 ⟨rfl, rfl⟩))
  go_ret
  have hb := HB1.out
  exact ⟨rfl, hb.grown HG2.out hb.size (fun k e => by cases e; exact Nat.le_refl _)⟩

end Go.Proofs.Ytmbnjgnmblgjoaa.Man
