/- The statement QuadLeast over numbers alone: a number has one byte for each seven bits, and one at least; a part of it is short. No condition. -/
import Derived.Test.YtlpafdkpljohmaaQuadRef
namespace Go.Proofs.Ytlpafdkpljohmaa.Pure
open Go.RowKit Go.Proofs.Ytlpafdkpljohmaa.Man Go.Proofs.Ytlpafdkpljohmaa.V Go.Proofs.YtlpafdkpljohmaaW.PrintWords Go.Proofs.YtlpafdkpljohmaaW.PrintLast Go.Proofs.YtlpafdkpljohmaaW.PrintMore
set_option linter.unusedVariables false
set_option linter.unusedSimpArgs false

theorem one_vbs' (a : Int) : vbs [a] = vb a.toNat := by simp [vbs]
/-- What is asked behind the loop. -/
theorem least_end (n : Nat) (hn : n < 18446744073709551616) (c : Int) (hc : 0 ≤ c ∧ c ≤ 255) (k : Nat) : emenderlaw01_QuadLeast.l0 (k + 1) (n : Int) c ((vb n).length : Int) 0 = some true := by
  have hl := vb_le_ten hn
  have hp := vb_length_pos n
  have hU : areU64 [(n : Int)] = true := by simp [areU64]; omega
  have hput : quad_Put.f [] [(n : Int)] = some (vb n) := by
    rw [put_f [] [(n : Int)] hU (by rw [one_vbs', List.nil_append]; simp; omega), one_vbs', List.nil_append]; simp
  have hlen : quad_Len.f (n : Int) = some ((vb n).length : Int) := by rw [len_f _ (by omega) (by omega)]; simp
  rw [emenderlaw01_QuadLeast.l0, if_neg (by omega), hput]
  simp only [Option.bind_some, if_true]
  rw [hlen]
  simp only [Option.bind_some, if_true]
  have hw : wrap64 c = c := by unfold wrap64; omega
  have htm : Int.tmod (wrap64 c) ((vb n).length : Int) = c % ((vb n).length : Int) := by rw [hw, Int.tmod_eq_emod_of_nonneg hc.1]
  have h1 := Int.emod_lt_of_pos c (show (0 : Int) < (vb n).length by omega)
  have h2 := Int.emod_nonneg c (show ((vb n).length : Int) ≠ 0 by omega)
  rw [htm]
  obtain ⟨j, hj⟩ : ∃ j : Nat, c % ((vb n).length : Int) = (j : Int) := ⟨(c % ((vb n).length : Int)).toNat, by omega⟩
  rw [hj] at h1 h2 ⊢
  have hjl : j < (vb n).length := by omega
  rw [if_neg (by omega), if_pos h2, if_pos (by omega), Int.toNat_natCast]
  have hB : areBytesN ((vb n).take j) = true := areBytesN_take (vb_bytes n) j
  have hs := getL_short n 0 0 j (.inl rfl) (by simpa using hn) (by decide) hjl
  have hg : getF ((vb n).take j) 0 = (0, (j : Int), 3) := by
    unfold getF
    rw [if_neg (by omega)]
    rw [Int.toNat_zero, List.drop_zero, hs]
    simp
  rw [get_f _ _ hB, hg]
  simp
theorem least_run (n : Nat) (hn : n < 18446744073709551616) (c : Int) (hc : 0 ≤ c ∧ c ≤ 255) (m : Nat) : ∀ (k w : Nat), m < 18446744073709551616 → w + (if m = 0 then 0 else (vb m).length) = (vb n).length → (if m = 0 then 0 else (vb m).length) < k → emenderlaw01_QuadLeast.l0 k (n : Int) c (w : Int) (m : Int) = some true := by
  induction m using Nat.strongRecOn with
  | _ m ih =>
    intro k w hm hw hk
    have h10 := vb_le_ten hn
    by_cases h0 : m = 0
    · subst h0
      obtain ⟨k, rfl⟩ : ∃ q, k = q + 1 := ⟨k - 1, by omega⟩
      have : w = (vb n).length := by simpa using hw
      subst this
      exact least_end n hn c hc k
    · rw [if_neg h0] at hw hk
      have hp := vb_length_pos m
      obtain ⟨k, rfl⟩ : ∃ q, k = q + 1 := ⟨k - 1, by omega⟩
      have e1 : wrap64 ((w : Int) + 1) = ((w + 1 : Nat) : Int) := wrap_succ w (by omega)
      have e2 : (m : Int) / 128 = ((m / 128 : Nat) : Int) := by omega
      have hl : (vb m).length = 1 + (if m / 128 = 0 then 0 else (vb (m / 128)).length) := by
        by_cases hs : m < 128
        · rw [vb_small hs, if_pos (by omega)]; rfl
        · rw [vb_great hs, if_neg (by omega)]; simp; omega
      rw [emenderlaw01_QuadLeast.l0, if_pos (by omega), e1, e2]
      exact ih (m / 128) (by omega) k (w + 1) (by omega) (by omega) (by omega)
theorem QuadLeast : emenderlaw01_QuadLeast.Pure := by
  intro a c ha hc
  obtain ⟨a0, a1⟩ := u64_range ha
  have hcr : 0 ≤ c ∧ c ≤ 255 := by simp [Lit.wf, IntKind.min, IntKind.max, IntKind.bits, IntKind.signed] at hc; omega
  obtain ⟨n, rfl⟩ : ∃ n : Nat, a = (n : Int) := ⟨a.toNat, by omega⟩
  have hn : n < 18446744073709551616 := by omega
  have h10 := vb_le_ten hn
  refine ⟨12, ?_⟩
  unfold emenderlaw01_QuadLeast.f
  have e2 : (n : Int) / 128 = ((n / 128 : Nat) : Int) := by omega
  have hl : (vb n).length = 1 + (if n / 128 = 0 then 0 else (vb (n / 128)).length) := by
    by_cases hs : n < 128
    · rw [vb_small hs, if_pos (by omega)]; rfl
    · rw [vb_great hs, if_neg (by omega)]; simp; omega
  rw [e2]
  exact least_run n hn c hcr (n / 128) 12 1 (by omega) (by omega) (by omega)

end Go.Proofs.Ytlpafdkpljohmaa.Pure
