/- The statement QuadJoins over numbers alone: numbers behind numbers are the rows one behind the other. Condition: the three rows together are no longer than 1048576. -/
import Derived.Test.YtlpafdkpljohmaaQuadAll
import Derived.Test.YtlpafdkpljohmaaVx6
namespace Go.Proofs.Ytlpafdkpljohmaa.Pure
open Go.RowKit Go.Proofs.Ytlpafdkpljohmaa.Man Go.Proofs.Ytlpafdkpljohmaa.V Go.Proofs.YtlpafdkpljohmaaW.PrintWords Go.Proofs.YtlpafdkpljohmaaW.PrintLast Go.Proofs.YtlpafdkpljohmaaW.PrintMore
set_option linter.unusedVariables false
set_option linter.unusedSimpArgs false

theorem size_list (x : ByteArray) : x.size = x.toList.length := by rw [Lib.toList_data]; exact Lib.size_eq x
theorem size_nums (l : List Int) : (strOfNums l).size = l.length := by rw [size_list, strs_list, List.length_map]
theorem QuadJoins : emenderlaw01_QuadJoins.PureUpto := by
  intro l0 l1 l2 _ _ w0 _ _ w1 _ _ w2 hU
  have U1 := areU64_wf w1
  have U2 := areU64_wf w2
  have v1 := vbs_length l1 U1
  have v2 := vbs_length l2 U2
  unfold emenderlaw01_QuadJoins.f
  simp only [Option.bind_some, List.nil_append, List.length_nil]
  rw [if_pos (by omega), put_f l0 l1 U1 (by rw [List.length_append]; omega), put_f [] l1 U1 (by rw [List.nil_append]; omega), put_f [] l2 U2 (by rw [List.nil_append]; omega)]
  simp only [Option.bind_some, List.nil_append]
  have hs : (strOfNums l0 ++ strOfNums (vbs l1)).size = l0.length + (vbs l1).length := by
    rw [size_list, strs_app, strs_list, List.length_map, List.length_append]
  rw [size_nums, size_nums, if_pos (by omega), if_pos (strs_app _ _).symm, put_f _ l2 U2 (by simp only [List.length_append]; omega)]
  simp only [Option.bind_some]
  rw [hs, size_nums, if_pos (by omega)]
  have e : strOfNums l0 ++ strOfNums (vbs l1) = strOfNums (l0 ++ vbs l1) := by
    unfold strOfNums
    apply ByteArray.ext
    simp [ByteArray.data_append]
  rw [e, if_pos (strs_app _ _).symm, awake_f]; rfl

end Go.Proofs.Ytlpafdkpljohmaa.Pure
