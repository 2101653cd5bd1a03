/- Strings made of bytes are told apart by the bytes; sizes. Conditions: the numbers are bytes. -/
import Derived.Test.YtmbnjgnmblgjoaaQuad
import Derived.Test.YtmbnjgnmblgjoaaQuadMath
import Derived.Lib.Bytes
namespace Go.Proofs.Ytmbnjgnmblgjoaa.Man
open Go.RowKit Go.Proofs.YtmbnjgnmblgjoaaW.PrintWords Go.Proofs.YtmbnjgnmblgjoaaW.PrintLast Go.Proofs.YtmbnjgnmblgjoaaW.PrintMore
set_option linter.unusedVariables false
set_option linter.unusedSimpArgs false

theorem strs_list (xs : List Int) : (strOfNums xs).toList = xs.map fun n => UInt8.ofNat n.toNat := (Lib.strOfNums_toList xs).trans rfl
theorem strs_inj : ∀ {x y : List Int}, areBytesN x = true → areBytesN y = true → (strOfNums x).toList = (strOfNums y).toList → x = y := by
  intro x
  induction x with
  | nil =>
    intro y _ _ h
    rw [strs_list, strs_list] at h
    cases y with
    | nil => rfl
    | cons c y => simp at h
  | cons c x ih =>
    intro y hx hy h
    rw [strs_list, strs_list] at h
    cases y with
    | nil => simp at h
    | cons d y =>
      simp only [areBytesN, List.all_cons, Bool.and_eq_true, decide_eq_true_eq] at hx hy
      simp only [List.map_cons, List.cons.injEq] at h
      have e : c = d := by
        have := congrArg UInt8.toNat h.1
        simp only [UInt8.toNat_ofNat'] at this
        omega
      rw [e, ih hx.2 hy.2 (by rw [strs_list, strs_list]; exact h.2)]
theorem strs_app (x y : List Int) : (strOfNums x ++ strOfNums y).toList = (strOfNums (x ++ y)).toList := by
  have e : strOfNums x ++ strOfNums y = strOfNums (x ++ y) := by
    unfold strOfNums
    apply ByteArray.ext
    simp [ByteArray.data_append]
  rw [e]
theorem vb_bytes (n : Nat) : areBytesN (vb n) = true := by
  induction n using Nat.strongRecOn with
  | _ n ih =>
    by_cases hs : n < 128
    · rw [vb_small hs]; simp [areBytesN]; omega
    · rw [vb_great hs]
      simp only [areBytesN, List.all_cons, Bool.and_eq_true, decide_eq_true_eq]
      exact ⟨by omega, ih (n / 128) (by omega)⟩
theorem areBytesN_append {a b : List Int} (ha : areBytesN a = true) (hb : areBytesN b = true) : areBytesN (a ++ b) = true := by
  unfold areBytesN at *; rw [List.all_append, ha, hb]; rfl
theorem areBytesN_take {l : List Int} (h : areBytesN l = true) (k : Nat) : areBytesN (l.take k) = true := by
  unfold areBytesN at *
  rw [List.all_eq_true] at *
  exact fun x hx => h x (List.mem_of_mem_take hx)
theorem vbs_bytes (l : List Int) : areBytesN (vbs l) = true := by
  induction l with
  | nil => rfl
  | cons x l ih => exact areBytesN_append (vb_bytes _) ih

end Go.Proofs.Ytmbnjgnmblgjoaa.Man
