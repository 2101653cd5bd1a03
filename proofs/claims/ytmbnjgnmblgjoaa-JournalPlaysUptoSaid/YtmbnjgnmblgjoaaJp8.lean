/- JournalPlays (Upto): any acts (Append, Sync, Crash, Cut) on a journal over a disk that held any bytes tell, act by act, what the document's journal tells. Conditions: the statement's own, no others. -/
-- Laid together by a program of this session (wip/tools/shake.py). Not trusted: Lean checks it.
import Derived.Test.YtmbnjgnmblgjoaaJp7
section
namespace Go.Proofs.Ytmbnjgnmblgjoaa.Open
open Go.RowKit Go.ChangeShapes Go.WideShapes Go.Proofs.YtmbnjgnmblgjoaaW.PrintWords
theorem op_entss : OP Try.prog 116 (Kd.slice 69 (Kd.slice 26 K.k26)) (fun xs => sum1 (fun ys : List K.S26 => sum1 (fun x : K.S26 => x.f2.f6.length + 1) ys + 1) xs + 1) := OP.slice Try.underlying116 (by kernel_rfl) op_ents
theorem opens_entss : Opens Try.prog 116 (Kd.slice 69 (Kd.slice 26 K.k26)) (fun _ => True) (fun xs => sum1 (fun ys : List K.S26 => sum1 (fun x : K.S26 => x.f2.f6.length + 1) ys + 1) xs + 1) := op_entss.out
theorem sum1_mem {α : Type} (f : α → Nat) : ∀ (xs : List α) (x : α), x ∈ xs → f x ≤ sum1 f xs
 | [], x, h => by cases h
 | y :: l, x, h => by
  rw [sum1]
  rcases List.mem_cons.1 h with rfl | h
  · omega
  · have := sum1_mem f l x h; omega
end Go.Proofs.Ytmbnjgnmblgjoaa.Open
namespace Go.Proofs.Ytmbnjgnmblgjoaa.Man
open Go.RowKit Go.Shelf Go.Proofs.YtmbnjgnmblgjoaaW.PrintWords Go.Proofs.YtmbnjgnmblgjoaaW.PrintLast Go.Proofs.YtmbnjgnmblgjoaaW.PrintMore
set_option linter.unusedVariables false
theorem bytes_wf {l : List Int} (h : ∀ x ∈ l, (Lit.int .u8 x).wf = true) : areBytesN l = true := by
 unfold areBytesN
 rw [List.all_eq_true]
 intro x hx
 have := Open.wf_u8 (h x hx)
 simpa using this
theorem jplays_row (A0 : Option Addr) (c0 : Nat) (first : List Int) (most : Int) (A1 : Option Addr) (c1 : Nat) (ks : List Int) (A2 : Option Addr) (c2 : Nat) (ps : List (List K.S26)) (A3 : Option Addr) (c3 : Nat) (ns : List Int) (w : World)
 (hr0 : Kd.C (Kd.int .u8) w A0 first.length first) (hc0 : first.length ≤ c0) (w0 : first.length * 1 ≤ 140737488351232 ∧ ∀ x ∈ first, (Lit.int .u8 x).wf = true) (hm : (Lit.int .i64 most).wf = true)
 (hr1 : Kd.C (Kd.int .u8) w A1 ks.length ks) (hc1 : ks.length ≤ c1) (w1 : ks.length * 1 ≤ 140737488351232 ∧ ∀ x ∈ ks, (Lit.int .u8 x).wf = true)
 (hr2 : Kd.C (Kd.slice 26 K.k26) w A2 ps.length ps) (hc2 : ps.length ≤ c2) (_ : True)
 (hr3 : Kd.C (Kd.int .i64) w A3 ns.length ns) (hc3 : ns.length ≤ c3) (w3 : ns.length * 8 ≤ 140737488351232 ∧ ∀ x ∈ ns, (Lit.int .i64 x).wf = true)
 (hU : Open.sum1 (fun ys : List K.S26 => Open.sum1 (fun x : K.S26 => x.f2.f6.length + 1) ys + 1) ps + 1 ≤ 1048576) :
 Calls Try.prog 18 #[.slice A0 first.length c0, .int .i64 most, .slice A1 ks.length c1, .slice A2 ps.length c2, .slice A3 ns.length c3] w fun e w' => e = .returned (.bool true) ∧ Below w.heap.size w w' := by
 have hp : ∀ i : Nat, (ps.getD i []).length ≤ 1048576 := fun i => by
  rw [List.getD_eq_getElem?_getD]
  cases hx : ps[i]? with
  | none => simp
  | some x =>
   have h1 := Open.sum1_mem (fun ys : List K.S26 => Open.sum1 (fun x : K.S26 => x.f2.f6.length + 1) ys + 1) ps x (List.mem_of_getElem? hx)
   have h2 := sum1_len x
   simp only [Option.getD_some] at h1 ⊢
   omega
 by_cases hb : most < 0 ∨ 262144 < most
 · exact jplays_bad A0 first.length c0 most A1 ks.length c1 A2 ps.length c2 A3 ns.length c3 w hb
 · exact jplays_good A0 c0 first most A1 c1 ks A2 c2 ps A3 c3 ns w hr0 (bytes_wf w0.2) hr1 hr2 hr3 (fun i => (Open.wf_u8 (Open.getD_all (P := fun x => (Lit.int .u8 x).wf = true) w1.2 (by decide) i)).1) (fun i => Open.wf_i64 (Open.getD_all (P := fun x => (Lit.int .i64 x).wf = true) w3.2 (by decide) i)) hp (by omega) (by omega)
end Go.Proofs.Ytmbnjgnmblgjoaa.Man
end
