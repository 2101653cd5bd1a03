/- SnapPlays: any Saves, stopped anywhere, of a store on two disks that held any bytes, tell, Save by Save, what the document's store tells. Conditions: the statement's own, no others. -/
-- Laid together by a program of this session (wip/tools/shake.py). Not trusted: Lean checks it.
import Derived.Test.YtmbnjgnmblgjoaaSp3
section
namespace Go.Proofs.Ytmbnjgnmblgjoaa.Man
open Go.RowKit Go.Shelf Go.Proofs.YtmbnjgnmblgjoaaW.PrintWords Go.Proofs.YtmbnjgnmblgjoaaW.PrintLast Go.Proofs.YtmbnjgnmblgjoaaW.PrintMore
set_option linter.unusedVariables false
theorem u8s_wf {l : List Int} (h : ∀ x ∈ l, (Lit.int .u8 x).wf = true) : areBytesN l = true := by
 unfold areBytesN
 rw [List.all_eq_true]
 intro x hx
 have := Open.wf_u8 (h x hx)
 simpa using this
theorem splays_row (A0 : Option Addr) (c0 : Nat) (first : List Int) (A1 : Option Addr) (c1 : Nat) (second : List Int) (most : Int) (A2 : Option Addr) (c2 : Nat) (ps : List (List Int)) (A3 : Option Addr) (c3 : Nat) (ss : List Int) (A4 : Option Addr) (c4 : Nat) (ks : List Int) (w : World)
 (hr0 : Kd.C (Kd.int .u8) w A0 first.length first) (hc0 : first.length ≤ c0) (w0 : first.length * 1 ≤ 140737488351232 ∧ ∀ x ∈ first, (Lit.int .u8 x).wf = true)
 (hr1 : Kd.C (Kd.int .u8) w A1 second.length second) (hc1 : second.length ≤ c1) (w1 : second.length * 1 ≤ 140737488351232 ∧ ∀ x ∈ second, (Lit.int .u8 x).wf = true) (hm : (Lit.int .i64 most).wf = true)
 (hr2 : Kd.C (Kd.slice 5 (Kd.int .u8)) w A2 ps.length ps) (hc2 : ps.length ≤ c2) (w2 : ps.length * 24 ≤ 140737488351232 ∧ ∀ x ∈ ps, x.length * 1 ≤ 140737488351232 ∧ ∀ y ∈ x, (Lit.int .u8 y).wf = true)
 (hr3 : Kd.C (Kd.int .i64) w A3 ss.length ss) (hc3 : ss.length ≤ c3) (w3 : ss.length * 8 ≤ 140737488351232 ∧ ∀ x ∈ ss, (Lit.int .i64 x).wf = true)
 (hr4 : Kd.C (Kd.int .i64) w A4 ks.length ks) (hc4 : ks.length ≤ c4) (w4 : ks.length * 8 ≤ 140737488351232 ∧ ∀ x ∈ ks, (Lit.int .i64 x).wf = true) :
 Calls Try.prog 10 #[.slice A0 first.length c0, .slice A1 second.length c1, .int .i64 most, .slice A2 ps.length c2, .slice A3 ss.length c3, .slice A4 ks.length c4] w fun e w' => e = .returned (.bool true) ∧ Below w.heap.size w w' := by
 by_cases hb : most < 0 ∨ 262144 < most
 · exact splays_bad A0 first.length c0 A1 second.length c1 most A2 ps.length c2 A3 ss.length c3 A4 ks.length c4 w hb
 · have hpp := fun i : Nat => Open.getD_all (P := fun x : List Int => x.length * 1 ≤ 140737488351232 ∧ ∀ y ∈ x, (Lit.int .u8 y).wf = true) (d := []) w2.2 ⟨by simp, fun y hy => by cases hy⟩ i
   exact splays_good A0 c0 first A1 c1 second most A2 c2 ps A3 c3 ss A4 c4 ks w hr0 (u8s_wf w0.2) hr1 (u8s_wf w1.2) hr2 hr3 hr4
    (fun i => Open.wf_i64 (Open.getD_all (P := fun x => (Lit.int .i64 x).wf = true) w3.2 (by decide) i)) (fun i => Open.wf_i64 (Open.getD_all (P := fun x => (Lit.int .i64 x).wf = true) w4.2 (by decide) i))
    (fun i => by have := (hpp i).1; omega) (fun i => u8s_wf (hpp i).2) (by omega) (by omega)
end Go.Proofs.Ytmbnjgnmblgjoaa.Man
end
