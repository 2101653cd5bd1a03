/- The statement QuadBack over numbers alone: numbers that were written are read, as many bytes as told, and bytes read without an error are the bytes of their numbers. Condition: the two rows together are no longer than 1048576. -/
import Derived.Test.YtlpafdkpljohmaaQuadAll
import Derived.Test.YtlpafdkpljohmaaVx5
namespace Go.Proofs.Ytlpafdkpljohmaa.Pure
open Go.RowKit Go.Proofs.Ytlpafdkpljohmaa.Man Go.Proofs.Ytlpafdkpljohmaa.V Go.Proofs.YtlpafdkpljohmaaW.PrintWords Go.Proofs.YtlpafdkpljohmaaW.PrintLast Go.Proofs.YtlpafdkpljohmaaW.PrintMore
set_option linter.unusedVariables false
set_option linter.unusedSimpArgs false

theorem back_run (l b : List Int) (hU : areU64 l = true) (hB : areBytesN b = true) (hl : l.length + b.length ≤ 1048576) (d : Nat) : ∀ (k i : Nat), i ≤ l.length → l.length - i = d → d + b.length + 200 < k → emenderlaw01_QuadBack.l0 k l b ((vbs l).length : Int) ((vbs (l.take i)).length : Int) (i : Int) = some true := by
  have hvl := vbs_length l hU
  induction d with
  | zero =>
    intro k i h1 h2 h3
    obtain ⟨k, rfl⟩ : ∃ m, k = m + 1 := ⟨k - 1, by omega⟩
    obtain rfl : i = l.length := by omega
    obtain ⟨ys, r2, r3, q1, q2, hys, hz⟩ := all_run b hB (by omega) b.length k 0 [] (by omega) (by omega) (by omega) (by simp; omega)
    simp only [List.length_nil] at hys
    rw [emenderlaw01_QuadBack.l0, if_neg (by omega), List.take_length]
    unfold quad_All.f
    have e0 : ((0 : Nat) : Int) = 0 := rfl
    rw [e0] at q1
    rw [q1]
    simp only [Option.bind_some, if_true]
    by_cases h0 : r3 = 0
    · obtain ⟨_, zs, e1, e2, e3⟩ := hz h0
      rw [List.nil_append] at e1
      subst e1
      rw [List.drop_zero] at e3
      have hvy := vbs_length ys e2
      rw [if_pos h0, put_f [] ys e2 (by rw [List.nil_append]; omega), e3]
      simp only [Option.bind_some, List.nil_append, if_true]
      rw [awake_f]; rfl
    · rw [if_neg h0, awake_f]; rfl
  | succ d ih =>
    intro k i h1 h2 h3
    obtain ⟨k, rfl⟩ : ∃ m, k = m + 1 := ⟨k - 1, by omega⟩
    have hlt : i < l.length := by omega
    have hrd : rd l (i : Int) = l[i] := by simp [rd, List.getD, hlt]
    obtain ⟨u0, u1⟩ := areU64_mem hU (List.getElem_mem hlt)
    have a1 : l.length - (i + 1) = d := by omega
    have a2 : d + b.length + 200 < k := by omega
    have b1 : (i : Int) < (l.length : Int) := Int.ofNat_lt.mpr hlt
    have b2 : (0 : Int) ≤ (i : Int) := Int.natCast_nonneg i
    have hw : wrap64 ((i : Int) + 1) = ((i + 1 : Nat) : Int) := wrap_succ i (by omega)
    have hv : vbs (l.take (i + 1)) = vbs (l.take i) ++ vb (l[i]).toNat := by rw [List.take_succ_eq_append_getElem hlt, vbs_snoc]
    have hle := vbs_take_len l (i + 1)
    have hs2 : (vbs (l.take i)).length + (vb (l[i]).toNat).length = (vbs (l.take (i + 1))).length := by rw [hv, List.length_append]
    have hw2 : wrap64 (((vbs (l.take i)).length : Int) + ((vb (l[i]).toNat).length : Int)) = ((vbs (l.take (i + 1))).length : Int) := by
      rw [← hs2]; exact wadd _ _ (by omega)
    rw [emenderlaw01_QuadBack.l0, if_pos b1, if_pos b2, hrd, len_f _ u0 u1]
    simp only [Option.bind_some]
    rw [hw, hw2]
    exact ih k (i + 1) hlt a1 a2
theorem QuadBack : emenderlaw01_QuadBack.PureUpto := by
  intro l b _ _ wl _ _ wb hU
  have Ul := areU64_wf wl
  have hB := bytesN_wf wb
  have hvl := vbs_length l Ul
  refine ⟨10 * l.length + b.length + 1000, ?_⟩
  unfold emenderlaw01_QuadBack.f
  rw [put_f [] l Ul (by rw [List.nil_append]; omega)]
  have hb := all_back l Ul (by omega) l.length (10 * l.length + b.length + 1000) 0 (by omega) (by omega) (by omega)
  rw [List.take_zero] at hb
  simp only [Option.bind_some, List.nil_append]
  unfold quad_All.f
  have e0 : (((vbs []).length : Nat) : Int) = 0 := rfl
  rw [e0] at hb
  rw [hb]
  simp only [Option.bind_some, if_true]
  rw [numbers_f l _ (by omega) (by omega)]
  obtain ⟨k, hk⟩ : ∃ k, 10 * l.length + b.length + 1000 = k + 1 := ⟨10 * l.length + b.length + 999, by omega⟩
  rw [hk]
  simp only [Option.bind_some, Bool.not_true]
  rw [emenderlaw01_QuadBack.j0, if_neg (by decide)]
  have := back_run l b Ul hB hU l.length k 0 (by omega) (by omega) (by omega)
  rw [List.take_zero] at this
  exact this

end Go.Proofs.Ytlpafdkpljohmaa.Pure
