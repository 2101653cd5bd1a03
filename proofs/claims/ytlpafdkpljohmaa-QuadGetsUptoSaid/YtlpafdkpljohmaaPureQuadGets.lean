/- The statement QuadGets over numbers alone: the number at any place of any bytes, and all of them, as the reference tells them. Condition: the bytes are no more than 1048576. -/
import Derived.Test.YtlpafdkpljohmaaQuadAll
namespace Go.Proofs.Ytlpafdkpljohmaa.Pure
open Go.RowKit Go.Proofs.Ytlpafdkpljohmaa.Man Go.Proofs.Ytlpafdkpljohmaa.V Go.Proofs.YtlpafdkpljohmaaW.PrintWords Go.Proofs.YtlpafdkpljohmaaW.PrintLast Go.Proofs.YtlpafdkpljohmaaW.PrintMore
set_option linter.unusedVariables false
set_option linter.unusedSimpArgs false

theorem QuadGets : emenderlaw01_QuadGets.PureUpto := by
  intro b p _ _ hw hp hU
  have hB := bytesN_wf hw
  obtain ⟨ys, r2, r3, q1, q2, hys, _⟩ := all_run b hB hU b.length (2 * b.length + 200) 0 [] (by omega) (by omega) (by omega) (by simp; omega)
  simp only [List.length_nil] at hys
  refine ⟨2 * b.length + 200, ?_⟩
  unfold emenderlaw01_QuadGets.f quad_All.f emenderref01_All.f
  simp only [Option.bind_some, List.nil_append, List.length_nil]
  rw [if_pos (by omega), get_f b p hB, rget_f b hB p _ (by omega) (by omega)]
  have e0 : ((0 : Nat) : Int) = 0 := rfl
  rw [e0] at q1 q2
  rw [q1, q2]
  simp only [Option.bind_some, if_true]
  rw [numbers_f ys _ (by omega) (by omega)]
  simp only [Option.bind_some, if_true]
  rw [awake_f]; rfl

end Go.Proofs.Ytlpafdkpljohmaa.Pure
