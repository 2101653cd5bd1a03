/- The statement SumParts over numbers alone: a sum that goes on is that of all at once; the sums of two parts, joined, are that of both. Condition: the two rows together are no longer than 1048576. -/
import Derived.Test.YtlpafdkpljohmaaSumRef
namespace Go.Proofs.Ytlpafdkpljohmaa.Pure
open Go.RowKit Go.Proofs.Ytlpafdkpljohmaa.Man Go.Proofs.Ytlpafdkpljohmaa.Q Go.Proofs.YtlpafdkpljohmaaW.PrintWords Go.Proofs.YtlpafdkpljohmaaW.PrintLast Go.Proofs.YtlpafdkpljohmaaW.PrintMore
set_option linter.unusedVariables false
set_option linter.unusedSimpArgs false

theorem SumParts : emenderlaw02_SumParts.PureUpto := by
  intro a b _ ha hwa _ hb hwb hU
  have hA := areBytes_wf hwa
  have hB := areBytes_wf hwb
  have hAB := areBytes_append hA hB
  have hr := moreF_range 1 a
  unfold emenderlaw02_SumParts.f
  simp only [Option.bind_some, List.nil_append, List.length_nil]
  rw [if_pos (by omega), if_pos (by omega), of_f a hA, of_f b hB, of_f _ hAB]
  simp only [Option.bind_some]
  rw [Join_f _ _ _ hr (moreF_range 1 b) (by omega) (by omega), joined, more_f _ b hB hr.1 hr.2, moreF_append]
  simp only [Option.bind_some, if_true]
  rw [awake_f]; rfl

end Go.Proofs.Ytlpafdkpljohmaa.Pure
