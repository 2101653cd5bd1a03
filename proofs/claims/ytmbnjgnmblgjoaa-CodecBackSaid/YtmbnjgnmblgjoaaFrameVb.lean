/- What is read was written so: one number. Plain. -/
import Derived.Test.YtmbnjgnmblgjoaaGet
namespace Go.Proofs.Ytmbnjgnmblgjoaa.Man
open Go.RowKit
set_option linter.unusedVariables false
theorem vb_of2 (v : Nat) (off : Nat) (l : List Int) (hB : areBytesN l = true) (h : getL l 0 0 = (v, off, 0)) : v < 18446744073709551616 ∧ 0 < off ∧ off ≤ l.length ∧ l = vb v ++ l.drop off ∧ off = (vb v).length := by
  obtain ⟨m, _, hv, hm, hoff, hl⟩ := getL_inv l 0 0 v off hB (by decide) h
  have e : v = m := by rw [hv]; simp
  subst e
  have hoff' : off = (vb v).length := by omega
  have hp := vb_length_pos v
  refine ⟨by have h2 : (2 : Nat) * 128 ^ (9 - 0) = 18446744073709551616 := by decide
             omega, by omega, ?_, by rw [hoff']; exact hl, hoff'⟩
  have := congrArg List.length hl
  rw [List.length_append] at this
  omega
end Go.Proofs.Ytmbnjgnmblgjoaa.Man
