/- The statement QuadPuts over numbers alone: any numbers behind any bytes are the reference's. Condition: the two rows together are no longer than 1048576. -/
import Derived.Test.YtlpafdkpljohmaaQuadRef
namespace Go.Proofs.Ytlpafdkpljohmaa.Pure
open Go.RowKit Go.Proofs.Ytlpafdkpljohmaa.Man Go.Proofs.Ytlpafdkpljohmaa.V Go.Proofs.YtlpafdkpljohmaaW.PrintWords Go.Proofs.YtlpafdkpljohmaaW.PrintLast Go.Proofs.YtlpafdkpljohmaaW.PrintMore
set_option linter.unusedVariables false
set_option linter.unusedSimpArgs false

theorem puts_run (b l : List Int) (hU : areU64 l = true) (hl : b.length + l.length ≤ 1048576) (K : Nat) (d : Nat) : ∀ (k i : Nat), i ≤ l.length → l.length - i = d → d + l.length + 20 < k → emenderlaw01_QuadPuts.l0 k b l (i : Int) = some true := by
  have hvl := vbs_length l hU
  have hroom : (b ++ vbs l).length ≤ 140737488355328 := by rw [List.length_append]; omega
  induction d with
  | zero =>
    intro k i h1 h2 h3
    obtain ⟨k, rfl⟩ : ∃ m, k = m + 1 := ⟨k - 1, by omega⟩
    obtain rfl : i = l.length := by omega
    rw [emenderlaw01_QuadPuts.l0, if_neg (by omega)]
    simp only [Option.bind_some, List.nil_append, List.length_nil]
    rw [if_pos (by omega), put_f b l hU hroom, rput_f b l k hU hroom (by omega) (by omega) (by omega)]
    simp only [Option.bind_some, if_true]
    rw [awake_f]; rfl
  | succ d ih =>
    intro k i h1 h2 h3
    obtain ⟨k, rfl⟩ : ∃ m, k = m + 1 := ⟨k - 1, by omega⟩
    have hlt : i < l.length := by omega
    have hrd : rd l (i : Int) = l[i] := by simp [rd, List.getD, hlt]
    obtain ⟨u0, u1⟩ := areU64_mem hU (List.getElem_mem hlt)
    have a1 : l.length - (i + 1) = d := by omega
    have a2 : d + l.length + 20 < k := by omega
    have a3 : 11 ≤ k := by omega
    have b1 : (i : Int) < (l.length : Int) := Int.ofNat_lt.mpr hlt
    have b2 : (0 : Int) ≤ (i : Int) := Int.natCast_nonneg i
    have hw : wrap64 ((i : Int) + 1) = ((i + 1 : Nat) : Int) := wrap_succ i (by omega)
    rw [emenderlaw01_QuadPuts.l0, if_pos b1, if_pos b2, hrd, len_f _ u0 u1, rlen_f _ k u0 u1 a3]
    simp only [Option.bind_some, if_true]
    rw [hw]
    exact ih k (i + 1) hlt a1 a2
theorem QuadPuts : emenderlaw01_QuadPuts.PureUpto := by
  intro b l _ _ hwb _ _ hwl hU
  refine ⟨l.length + l.length + 30, ?_⟩
  unfold emenderlaw01_QuadPuts.f
  exact puts_run b l (areU64_wf hwl) hU 0 l.length _ 0 (by omega) (by omega) (by omega)

end Go.Proofs.Ytlpafdkpljohmaa.Pure
