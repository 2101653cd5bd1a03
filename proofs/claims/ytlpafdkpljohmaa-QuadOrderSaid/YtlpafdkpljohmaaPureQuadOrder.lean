/- The statement QuadOrder over numbers alone: the greater of two numbers has no fewer bytes; a number is told by its bytes. No condition. -/
import Derived.Test.YtlpafdkpljohmaaQuadRef
namespace Go.Proofs.Ytlpafdkpljohmaa.Pure
open Go.RowKit Go.Proofs.Ytlpafdkpljohmaa.Man Go.Proofs.Ytlpafdkpljohmaa.V Go.Proofs.YtlpafdkpljohmaaW.PrintWords Go.Proofs.YtlpafdkpljohmaaW.PrintLast Go.Proofs.YtlpafdkpljohmaaW.PrintMore
set_option linter.unusedVariables false
set_option linter.unusedSimpArgs false

theorem one_vbs (a : Int) : vbs [a] = vb a.toNat := by simp [vbs]
theorem QuadOrder : emenderlaw01_QuadOrder.Pure := by
  intro a b ha hb
  obtain ⟨a0, a1⟩ := u64_range ha
  obtain ⟨b0, b1⟩ := u64_range hb
  have la := vb_le_ten (n := a.toNat) (by omega)
  have lb := vb_le_ten (n := b.toNat) (by omega)
  have pa := vb_length_pos a.toNat
  have hUa : areU64 [a] = true := by simp [areU64]; omega
  have hUb : areU64 [b] = true := by simp [areU64]; omega
  have hput : ∀ (x : Int), areU64 [x] = true → (vb x.toNat).length ≤ 10 → quad_Put.f [] [x] = some (vb x.toNat) := fun x hx h => by
    rw [put_f [] [x] hx (by rw [one_vbs, List.nil_append]; omega), one_vbs, List.nil_append]
  unfold emenderlaw01_QuadOrder.f
  rw [hput a hUa la, hput b hUb lb]
  simp only [Option.bind_some]
  have heq : (((strOfNums (vb a.toNat)).toList == (strOfNums (vb b.toNat)).toList) == (a == b)) = true := by
    by_cases h : a = b
    · subst h; simp
    · have h1 : (a == b) = false := beq_eq_false_iff_ne.mpr h
      have h2 : ((strOfNums (vb a.toNat)).toList == (strOfNums (vb b.toNat)).toList) = false := beq_eq_false_iff_ne.mpr (fun e => h (by
        have e1 := strs_inj (vb_bytes _) (vb_bytes _) e
        have e2 := vb_inj (by omega) (by omega) e1
        omega))
      rw [h1, h2]; rfl
  have fin : (if ((vb a.toNat).length : Int) ≥ 1 then (if ((vb a.toNat).length : Int) ≤ 10 then ((emenderlaw01_awake.f).bind fun t => (some t)) else (some false)) else (some false)) = some true := by
    rw [if_pos (by omega), if_pos (by omega), awake_f]; rfl
  by_cases hgt : a > b
  · rw [if_pos hgt, if_pos heq]; exact fin
  · rw [if_neg hgt, if_pos (by have := vb_mono b.toNat a.toNat (by omega); omega), if_pos heq]; exact fin

end Go.Proofs.Ytlpafdkpljohmaa.Pure
