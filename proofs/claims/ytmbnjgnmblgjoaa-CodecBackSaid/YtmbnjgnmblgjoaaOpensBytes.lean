/- What rows of bytes, rows of such rows, rows of whole numbers read as. -/
import Derived.Test.YtmbnjgnmblgjoaaOpens
namespace Go.Proofs.Ytmbnjgnmblgjoaa.Open
open Go.RowKit Go.ChangeShapes Go.WideShapes Go.Proofs.YtmbnjgnmblgjoaaW.PrintWords
theorem opens_u8 : Opens Try.prog 5 (Kd.int .u8) (fun n => (Lit.int .u8 n).wf = true) (fun _ => 1) := opens_int Try.underlying5
theorem opens_bytes : Opens Try.prog 27 (Kd.slice 5 (Kd.int .u8)) (fun xs => xs.length * 1 ≤ 140737488351232 ∧ ∀ x ∈ xs, (Lit.int .u8 x).wf = true) (fun xs => sum1 (fun _ => 1) xs + 1) :=
  opens_slice Try.underlying27 (by kernel_rfl) (by kernel_rfl) opens_u8 _
theorem opens_rows : Opens Try.prog 41 (Kd.slice 27 (Kd.slice 5 (Kd.int .u8))) (fun xs => xs.length * 24 ≤ 140737488351232 ∧ ∀ x ∈ xs, x.length * 1 ≤ 140737488351232 ∧ ∀ y ∈ x, (Lit.int .u8 y).wf = true) (fun xs => sum1 (fun ys => sum1 (fun _ => 1) ys + 1) xs + 1) :=
  opens_slice Try.underlying41 (by kernel_rfl) (by kernel_rfl) opens_bytes _
theorem opens_ints : Opens Try.prog 42 (Kd.slice 3 (Kd.int .i64)) (fun xs => xs.length * 8 ≤ 140737488351232 ∧ ∀ x ∈ xs, (Lit.int .i64 x).wf = true) (fun xs => sum1 (fun _ => 1) xs + 1) :=
  opens_slice Try.underlying42 (by kernel_rfl) (by kernel_rfl) (opens_int Try.underlying3) _
theorem sum1_const {α : Type} : ∀ xs : List α, sum1 (fun _ => 1) xs = xs.length
  | [] => rfl
  | x :: l => by rw [sum1, sum1_const l, List.length_cons, Nat.add_comm]
theorem wf_u8 {x : Int} (h : (Lit.int .u8 x).wf = true) : 0 ≤ x ∧ x ≤ 255 := by simpa [Lit.wf, IntKind.min, IntKind.max, IntKind.bits, IntKind.signed] using h
theorem wf_i64 {x : Int} (h : (Lit.int .i64 x).wf = true) : -9223372036854775808 ≤ x ∧ x ≤ 9223372036854775807 := by simpa [Lit.wf, IntKind.min, IntKind.max, IntKind.bits, IntKind.signed] using h
theorem wf_u16 {x : Int} (h : (Lit.int .u16 x).wf = true) : 0 ≤ x ∧ x ≤ 65535 := by simpa [Lit.wf, IntKind.min, IntKind.max, IntKind.bits, IntKind.signed] using h
theorem getD_all {α : Type} {P : α → Prop} {d : α} {xs : List α} (h : ∀ x ∈ xs, P x) (hd : P d) (i : Nat) : P (xs.getD i d) := by
  rw [List.getD_eq_getElem?_getD]
  cases hx : xs[i]? with
  | none => exact hd
  | some x => exact h x (List.mem_of_getElem? hx)
end Go.Proofs.Ytmbnjgnmblgjoaa.Open
