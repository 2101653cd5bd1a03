/- The statement SumZero over numbers alone: no bytes change no sum of bytes, and a sum joined with the sum of none stays. No condition beyond the form's reach. -/
import Derived.Test.YtlpafdkpljohmaaSumRef
namespace Go.Proofs.Ytlpafdkpljohmaa.Pure
open Go.RowKit Go.Proofs.Ytlpafdkpljohmaa.Man Go.Proofs.Ytlpafdkpljohmaa.Q Go.Proofs.YtlpafdkpljohmaaW.PrintWords Go.Proofs.YtlpafdkpljohmaaW.PrintLast Go.Proofs.YtlpafdkpljohmaaW.PrintMore
set_option linter.unusedVariables false
set_option linter.unusedSimpArgs false

theorem SumZero : emenderlaw02_SumZero.Pure := by
  intro l _ hl hw
  have hB := areBytes_wf hw
  have hr := moreF_range 1 l
  unfold emenderlaw02_SumZero.f
  rw [of_f l hB]
  simp only [Option.bind_some]
  have hm : moreF (moreF 1 l) [] = moreF 1 l := by rw [moreF_append, List.append_nil]
  have j1 : joinP ((partA (moreF 1 l) + 65520) + partA 1) (((0 : Int) % 65521) * ((partA (moreF 1 l) + 65520) % 65521) + partB (moreF 1 l) + partB 1) = moreF 1 l := by
    have := joined l []
    rw [List.append_nil] at this
    have e1 : moreF 1 [] = 1 := by decide
    rw [e1] at this
    simpa using this
  have j2 : joinP ((partA 1 + 65520) + partA (moreF 1 l)) (((l.length : Int) % 65521) * ((partA 1 + 65520) % 65521) + partB 1 + partB (moreF 1 l)) = moreF 1 l := by
    have := joined [] l
    have e1 : moreF 1 [] = 1 := by decide
    rw [e1, List.nil_append] at this
    exact this
  rw [Join_f _ 1 0 hr (by omega) (by omega) (by omega), j1, Join_f 1 _ _ (by omega) hr (by omega) (by omega), j2]
  have hneg : wrap64 (-1 - (l.length : Int)) < 0 := by unfold wrap64; omega
  rw [Join_neg _ _ _ hneg, more_f _ [] rfl hr.1 hr.2, hm]
  simp only [Option.bind_some, if_true]
  rw [awake_f]; rfl

end Go.Proofs.Ytlpafdkpljohmaa.Pure
