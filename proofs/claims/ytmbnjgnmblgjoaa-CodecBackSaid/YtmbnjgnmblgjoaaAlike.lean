/- The statements' own comparisons of tokens and steps (layer 16) at equal arguments: true. -/
import Derived.Test.YtmbnjgnmblgjoaaGetMsg
namespace Go.Proofs.Ytmbnjgnmblgjoaa.Man
open Go.RowKit Go.Proofs.YtmbnjgnmblgjoaaW.PrintWords Go.Proofs.YtmbnjgnmblgjoaaW.PrintLast Go.Proofs.YtmbnjgnmblgjoaaW.PrintMore
set_option linter.unusedVariables false
set_option linter.unusedSimpArgs false
set_option maxRecDepth 100000
attribute [local go_sem high] K.eqA111

set_option maxHeartbeats 4000000 in
theorem alike16_yes (w : World) (A B : Option Addr) (c d : Nat) (l : List K.S111) (hr : Kd.C K.k111 w A l.length l) (hr' : Kd.C K.k111 w B l.length l) :
    Calls Try.prog 68 #[.slice A l.length c, .slice B l.length d] w fun e w' => e = .returned (.bool true) ∧ Below w.heap.size w w' := by
  have hl : l.length ≤ 9223372036854775807 := hr.2.1
  have HR := Lib.hid hr
  have HR' := Lib.hid hr'
  clear hr hr'
  go_enter Try.func68, Try.ntmps68
  go_wp2
  go_loopg [5] l.length (fun g s5 wr => ∃ i m : Nat, s5 = .int .i64 i ∧ i ≤ l.length ∧ g = l.length - i ∧ wr = w.drewN m)
  case atStart => exact ⟨0, 0, rfl, Nat.zero_le _, rfl, rfl⟩
  case round =>
    obtain ⟨i, m, rfl, hi, hg, rfl⟩ := hrel
    by_cases hlt : i < l.length
    · obtain ⟨ad, e1, a0, a1, a2, a3⟩ := K.at_T111 HR.out (i : Int) (by omega) (by omega)
      obtain ⟨ad', e2, b0, b1, b2, b3⟩ := K.at_T111 HR'.out (i : Int) (by omega) (by omega)
      subst e1; subst e2
      rw [Int.toNat_natCast] at a0 a1 a2 a3 b0 b1 b2 b3
      generalize K.rd_T111 l i = x at a0 a1 a2 a3 b0 b1 b2 b3
      go_wp2
      go_quiet (fail)
      go_wp2
      go_roundg (l.length - (i + 1))
      case measure => omega
      case rel => exact ⟨i + 1, _, by go_num, by omega, rfl, rfl⟩
    · obtain rfl : i = l.length := by omega
      go_wp2
      go_ret
      exact ⟨rfl, pw_below_drewN (Below.refl _ _) m⟩
/-- A step's cells. -/
abbrev stepV (x : K.S26) (A : Option Addr) (c : Nat) : Value := .agg #[.int .i64 x.f2.f0, .int .i64 x.f2.f1, .int .i64 x.f2.f2, .int .i64 x.f2.f3, .int .i64 x.f2.f4, .int .i64 x.f2.f5, .slice A x.f2.f6.length c, .int .i64 x.f2.f7]
set_option maxHeartbeats 4000000 in
theorem twin16_yes (w : World) (A B : Option Addr) (c d : Nat) (x : K.S26) (hr : Kd.C K.k111 w A x.f2.f6.length x.f2.f6) (hr' : Kd.C K.k111 w B x.f2.f6.length x.f2.f6) :
    Calls Try.prog 134 #[stepV x A c, stepV x B d] w fun e w' => e = .returned (.bool true) ∧ Below w.heap.size w w' := by
  have HG := Lib.hid (fun (W : World) (hb : Below w.heap.size w W) => alike16_yes W A B c d x.f2.f6 (Kd.C_below hr hb) (Kd.C_below hr' hb))
  clear hr hr'
  unfold stepV
  go_enter Try.func134, Try.ntmps134
  go_wp2_with (go_at_call 68; refine (HG.out _ (((Below.refl _ _).alloc (Nat.le_refl _) _).alloc (by simp) _)).mono ?_; rintro e w1 ⟨rfl, hb⟩; have HB := Lib.hid hb; clear hb)
  go_ret
  exact ⟨rfl, (((Below.refl _ _).alloc (Nat.le_refl _) _).alloc (by simp) _).trans (HB.out.mono (by simp; omega))⟩
end Go.Proofs.Ytmbnjgnmblgjoaa.Man
