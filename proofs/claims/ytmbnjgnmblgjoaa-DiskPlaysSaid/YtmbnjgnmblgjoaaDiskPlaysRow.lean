/- The statement DiskPlays, in the form that its row calls: for every size, all acts, all parts, all numbers. -/
import Derived.Test.YtmbnjgnmblgjoaaDiskPlays
import Derived.Test.YtmbnjgnmblgjoaaOpensBytes
namespace Go.Proofs.Ytmbnjgnmblgjoaa.Man
open Go.RowKit Go.Proofs.YtmbnjgnmblgjoaaW.PrintWords Go.Proofs.YtmbnjgnmblgjoaaW.PrintLast Go.Proofs.Ytmbnjgnmblgjoaa.Open
theorem plays_row (most : Int) (A1 : Option Addr) (c1 : Nat) (ks : List Int) (A2 : Option Addr) (c2 : Nat) (ps : List (List Int)) (A3 : Option Addr) (c3 : Nat) (ns : List Int) (w : World) (hm : (Lit.int .i64 most).wf = true)
    (hr1 : (Kd.int .u8).C w A1 ks.length ks) (hc1 : ks.length ≤ c1) (w1 : ks.length * 1 ≤ 140737488351232 ∧ ∀ x ∈ ks, (Lit.int .u8 x).wf = true)
    (hr2 : (Kd.slice 5 (Kd.int .u8)).C w A2 ps.length ps) (hc2 : ps.length ≤ c2) (w2 : ps.length * 24 ≤ 140737488351232 ∧ ∀ x ∈ ps, x.length * 1 ≤ 140737488351232 ∧ ∀ y ∈ x, (Lit.int .u8 y).wf = true)
    (hr3 : (Kd.int .i64).C w A3 ns.length ns) (hc3 : ns.length ≤ c3) (w3 : ns.length * 8 ≤ 140737488351232 ∧ ∀ x ∈ ns, (Lit.int .i64 x).wf = true) :
    Calls Try.prog 4 #[.int .i64 most, .slice A1 ks.length c1, .slice A2 ps.length c2, .slice A3 ns.length c3] w fun e w' => e = .returned (.bool true) ∧ Below w.heap.size w w' := by
  by_cases hb : most < 0 ∨ 262144 < most
  · exact plays_bad most A1 _ c1 A2 _ c2 A3 _ c3 w hb
  · exact plays_good most A1 c1 ks A2 c2 ps A3 c3 ns w hr1 hr2 hr3 (fun i => getD_all (P := fun x => 0 ≤ x) (fun x hx => (wf_u8 (w1.2 x hx)).1) (by decide) i) (fun i => getD_all (P := fun x => -9223372036854775808 ≤ x ∧ x ≤ 9223372036854775807) (fun x hx => wf_i64 (w3.2 x hx)) (by decide) i)
      (fun i => getD_all (P := fun x : List Int => x.length ≤ 140737488351232) (fun x hx => by have := (w2.2 x hx).1; omega) (by decide) i) (by omega) (by omega)
end Go.Proofs.Ytmbnjgnmblgjoaa.Man
