/- The statement SumTells over numbers alone: bytes that differ in one byte have other sums. No condition beyond the form's reach. -/
import Derived.Test.YtlpafdkpljohmaaSumRef
namespace Go.Proofs.Ytlpafdkpljohmaa.Pure
open Go.RowKit Go.Proofs.Ytlpafdkpljohmaa.Man Go.Proofs.Ytlpafdkpljohmaa.Q Go.Proofs.YtlpafdkpljohmaaW.PrintWords Go.Proofs.YtlpafdkpljohmaaW.PrintLast Go.Proofs.YtlpafdkpljohmaaW.PrintMore
set_option linter.unusedVariables false
set_option linter.unusedSimpArgs false

theorem S_set (l : List Int) : ∀ (i : Nat) (c : Int), i < l.length → S (l.set i c) = S l - l.getD i 0 + c := by
  induction l with
  | nil => intro i c h; simp at h
  | cons x l ih =>
    intro i c h
    cases i with
    | zero => simp [S]; omega
    | succ i =>
      have := ih i c (by simpa using h)
      simp only [List.set_cons_succ, S, this, List.getD_cons_succ]; omega
theorem areBytes_set {l : List Int} (h : areBytes l = true) (i : Nat) {c : Int} (h0 : 0 ≤ c) (h1 : c ≤ 255) : areBytes (l.set i c) = true := by
  unfold areBytes at *
  rw [List.all_eq_true] at *
  intro x hx
  rcases List.mem_or_eq_of_mem_set hx with hx | rfl
  · exact h x hx
  · simp; omega
theorem tells (l : List Int) (hB : areBytes l = true) (i : Nat) (c : Int) (hi : i < l.length) (h0 : 0 ≤ c) (h1 : c ≤ 255) : (moreF 1 (l.set i c) = moreF 1 l) ↔ c = l.getD i 0 := by
  obtain ⟨g0, g1⟩ := areBytes_get hB hi
  constructor
  · intro h
    rw [moreF_eq, moreF_eq] at h
    have := (joinP_inj h).1
    rw [U_one, U_one, S_set l i c hi] at this
    unfold Eqp at this
    omega
  · intro h
    rw [h, getD_lt hi, List.set_getElem_self]

theorem SumTells : emenderlaw02_SumTells.Pure := by
  intro l at_ c _ hl hw ha hc
  have hB := areBytes_wf hw
  have hcr : 0 ≤ c ∧ c ≤ 255 := by simp [Lit.wf, IntKind.min, IntKind.max, IntKind.bits, IntKind.signed] at hc; omega
  have har : 0 ≤ at_ ∧ at_ < 65536 := by simp [Lit.wf, IntKind.min, IntKind.max, IntKind.bits, IntKind.signed] at ha; omega
  refine ⟨1, ?_⟩
  have hyes : emenderlaw02_SumTells.j0 1 l at_ c true = some true := by
    simp only [emenderlaw02_SumTells.j0]; rw [awake_f]; rfl
  unfold emenderlaw02_SumTells.f
  by_cases he : (l.length : Int) = 0
  · rw [if_pos he]; exact hyes
  · rw [if_neg he]
    by_cases hb : (l.length : Int) > 60000
    · rw [decide_eq_true hb]; exact hyes
    · rw [decide_eq_false hb]
      have hw64 : wrap64 at_ = at_ := by unfold wrap64; omega
      have htm : Int.tmod (wrap64 at_) (l.length : Int) = at_ % (l.length : Int) := by rw [hw64, Int.tmod_eq_emod_of_nonneg har.1]
      have hlt := Int.emod_lt_of_pos at_ (show (0 : Int) < l.length by omega)
      have hge := Int.emod_nonneg at_ he
      simp only [emenderlaw02_SumTells.j0]
      rw [htm]
      generalize hj : at_ % (l.length : Int) = j at *
      simp only [Bool.false_eq_true, if_false, Option.bind_some, List.nil_append, List.length_nil]
      rw [if_pos (by omega), if_neg he, if_pos hge, if_pos hlt, of_f _ (areBytes_set hB _ hcr.1 hcr.2), of_f l hB]
      simp only [Option.bind_some]
      rw [if_pos hlt]
      have hrd : rd l j = l.getD j.toNat 0 := rfl
      have ht := tells l hB j.toNat c (by omega) hcr.1 hcr.2
      have : ((moreF 1 (l.set j.toNat c) == moreF 1 l) == (c == rd l j)) = true := by
        rw [hrd]
        by_cases hcl : c = l.getD j.toNat 0
        · rw [beq_iff_eq.mpr (ht.mpr hcl), beq_iff_eq.mpr hcl]; rfl
        · rw [beq_eq_false_iff_ne.mpr (fun h => hcl (ht.mp h)), beq_eq_false_iff_ne.mpr hcl]; rfl
      rw [if_pos this, awake_f]; rfl

end Go.Proofs.Ytlpafdkpljohmaa.Pure
