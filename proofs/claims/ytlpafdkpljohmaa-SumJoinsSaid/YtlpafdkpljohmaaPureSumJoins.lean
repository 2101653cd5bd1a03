/- The statement SumJoins over numbers alone: any two sums, joined, are as the reference joins them. No condition. -/
import Derived.Test.YtlpafdkpljohmaaSumRef
namespace Go.Proofs.Ytlpafdkpljohmaa.Pure
open Go.RowKit Go.Proofs.Ytlpafdkpljohmaa.Man Go.Proofs.Ytlpafdkpljohmaa.Q Go.Proofs.YtlpafdkpljohmaaW.PrintWords Go.Proofs.YtlpafdkpljohmaaW.PrintLast Go.Proofs.YtlpafdkpljohmaaW.PrintMore
set_option linter.unusedVariables false
set_option linter.unusedSimpArgs false

theorem SumJoins : emenderlaw02_SumJoins.Pure := by
  intro s t n hs ht hn
  obtain ⟨s0, s1⟩ := u32_range hs
  obtain ⟨t0, t1⟩ := u32_range ht
  obtain ⟨n0, n1⟩ := i64_range hn
  unfold emenderlaw02_SumJoins.f
  by_cases h : n < 0
  · rw [Join_neg s t n h]
    unfold emenderref02_Join.f
    rw [if_pos h]
    simp only [Option.bind_some, if_true]
    rw [awake_f]; rfl
  · have hr : emenderref02_Join.f s t n = some (joinP ((partA s + 65520) + partA t) ((n % 65521) * ((partA s + 65520) % 65521) + partB s + partB t), 0) := by
      unfold emenderref02_Join.f
      rw [if_neg h]
      have a1 : 0 ≤ partA s ∧ partA s < 65521 ∧ 0 ≤ partB s ∧ partB s < 65521 := by unfold partA partB; omega
      have a2 : 0 ≤ partA t ∧ partA t < 65521 ∧ 0 ≤ partB t ∧ partB t < 65521 := by unfold partA partB; omega
      have eA : ∀ q : Int, 0 ≤ q → Int.tmod (Int.tmod q 65536) 65521 = partA q := fun q h0 => by
        unfold partA; rw [Int.tmod_eq_emod_of_nonneg h0, Int.tmod_eq_emod_of_nonneg (by omega)]
      have eB : ∀ q : Int, 0 ≤ q → q < 4294967296 → ((Int.tdiv q 65536) % 4294967296) % 65521 = partB q := fun q h0 h1 => by
        unfold partB; rw [Int.tdiv_eq_ediv_of_nonneg h0]; omega
      simp only [IntKind.wrap_u64]
      rw [eA s s0, eA t t0, eB s s0 s1, eB t t0 t1]
      generalize partA s = x at *
      generalize partB s = y at *
      generalize partA t = z at *
      generalize partB t = v at *
      have e0 : n % 18446744073709551616 = n := by omega
      have e1 : ((x % 18446744073709551616 + 65521) % 18446744073709551616 - 1) % 18446744073709551616 = x + 65520 := by omega
      rw [e0, e1, Int.tmod_eq_emod_of_nonneg (show (0 : Int) ≤ n by omega)]
      have hq : (((x % 18446744073709551616 + z % 18446744073709551616) % 18446744073709551616 + 65521) % 18446744073709551616 - 1) % 18446744073709551616 = x + 65520 + z := by omega
      rw [hq]
      have hm : 0 ≤ (n % 65521) * (x + 65520) ∧ (n % 65521) * (x + 65520) ≤ 65521 * 131042 :=
        ⟨Int.mul_nonneg (by omega) (by omega), Int.mul_le_mul (by omega) (by omega) (by omega) (by omega)⟩
      have hE : Eqp ((n % 65521) * ((x + 65520) % 65521)) ((n % 65521) * (x + 65520)) := (Eqp.refl _).mul (Eqp.mod _)
      rw [joinP_eqp (Eqp.refl (x + 65520 + z)) ((hE.add (Eqp.refl y)).add (Eqp.refl v))]
      generalize (n % 65521) * (x + 65520) = m at *
      have e4 : (y + v + m % 18446744073709551616) % 18446744073709551616 = m + y + v := by omega
      rw [e4, Int.tmod_eq_emod_of_nonneg (show (0 : Int) ≤ m + y + v by omega), Int.tmod_eq_emod_of_nonneg (show (0 : Int) ≤ x + 65520 + z by omega)]
      unfold joinP
      congr 2
      omega
    rw [hr, Join_f s t n ⟨s0, s1⟩ ⟨t0, t1⟩ (by omega) n1]
    simp only [Option.bind_some, if_true]
    rw [awake_f]; rfl

end Go.Proofs.Ytlpafdkpljohmaa.Pure
