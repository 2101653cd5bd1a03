/- The statement SumSums over numbers alone: the program's sum of any bytes, and of bytes behind any sum, is the reference's. No condition beyond the form's reach. -/
import Derived.Test.YtlpafdkpljohmaaSumRef
namespace Go.Proofs.Ytlpafdkpljohmaa.Pure
open Go.RowKit Go.Proofs.Ytlpafdkpljohmaa.Man Go.Proofs.Ytlpafdkpljohmaa.Q Go.Proofs.YtlpafdkpljohmaaW.PrintWords Go.Proofs.YtlpafdkpljohmaaW.PrintLast Go.Proofs.YtlpafdkpljohmaaW.PrintMore
set_option linter.unusedVariables false
set_option linter.unusedSimpArgs false

theorem SumSums : emenderlaw02_SumSums.Pure := by
  intro l s _ hl hw hs
  have hB := areBytes_wf hw
  obtain ⟨s0, s1⟩ := u32_range hs
  refine ⟨l.length + 1, ?_⟩
  unfold emenderlaw02_SumSums.f
  simp only [Option.bind_some]
  rw [if_pos (by simp; omega), List.nil_append, of_f l hB, ref_of _ l hB (by omega) (by omega), more_f s l hB s0 s1, ref_more _ s l hB (by omega) (by omega) s0 s1]
  simp only [Option.bind_some, if_true]
  rw [awake_f]
  rfl

end Go.Proofs.Ytlpafdkpljohmaa.Pure
