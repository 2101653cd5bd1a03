/- codec.run: what its deferred closure does, what it comes to. -/
import Derived.Test.YtmbnjgnmblgjoaaReadEnt
import Derived.Defers
import Derived.Recover
namespace Go.Proofs.Ytmbnjgnmblgjoaa.Man
open Go.RowKit Go.Proofs.YtmbnjgnmblgjoaaW.PrintWords Go.Proofs.YtmbnjgnmblgjoaaW.PrintLast Go.Proofs.YtmbnjgnmblgjoaaW.PrintMore
set_option linter.unusedVariables false
set_option linter.unusedSimpArgs false
set_option maxRecDepth 100000

theorem assert_err (v : Value) (W : World) : (Instr.typeAssert (.iface 28 v) 20 28 true).run Try.prog W = .ok (.tuple #[v, .bool true]) W := by
  simp [Instr.typeAssert, run_underlying Try.underlying28, go_sem, Result.andThen]
set_option maxHeartbeats 4000000 in
theorem catch_err (p : Addr) (x : Value) (f : Int) (w : World) (hc : w.cell? p = some x) (hz : w.frozen? p = false) :
    CallsD Try.prog 143 #[.pointer (some p)] (.panicking (errCh f)) w fun e u' w' =>
      e = .returned (.tuple #[]) ∧ u' = .panicking [{ v := .iface 28 (.int .i64 f), recovered := true }] ∧ w' = w.setCell p (.int .i64 f) := by
  have hta := assert_err (.int .i64 f)
  refine callsD_of_wpS Try.func143 rfl fun c₀ cs hu => ?_
  apply wpS_seq
  apply wpS_region
  simp [wpOpsS, go_sem, recoverD, hu, Try.ntmps143, Exit.thenS]
  refine wpS_of_wp ?_
  go_wp2
  cases c₀
  simp_all [bodyPostS, results, Try.results143]
theorem catch_none (p : Addr) (w : World) :
    CallsD Try.prog 143 #[.pointer (some p)] .returning w fun e u' w' => e = .returned (.tuple #[]) ∧ u' = .returning ∧ w' = w := by
  refine callsD_of_wpS Try.func143 rfl fun c₀ cs hu => ?_
  apply wpS_seq
  apply wpS_region
  simp [wpOpsS, go_sem, recoverD, hu, Try.ntmps143, Exit.thenS]
  refine wpS_of_wp ?_
  go_wp2
  cases c₀
  simp_all [bodyPostS, results, Try.results143]

/-- The result's variable, as run lays it. -/
def ResAt (w : World) (R : Nat) (f : Int) : Prop := w.heap[R]? = some (.cells #[.int .i64 f] 28 (0, 0))
theorem ResAt.c0 {w : World} {R : Nat} {f : Int} (k : ResAt w R f) : w.cell? ⟨R, 0, none⟩ = some (.int .i64 f) := by simp [World.cell?, show w.heap[R]? = _ from k]
theorem ResAt.f {w : World} {R : Nat} {f : Int} (k : ResAt w R f) : w.frozen? ⟨R, 0, none⟩ = false := by simp [World.frozen?, show w.heap[R]? = _ from k]
theorem ResAt.put {w : World} {R : Nat} {f : Int} (k : ResAt w R f) (g : Int) : ResAt (w.setCell ⟨R, 0, none⟩ (.int .i64 g)) R g := by
  unfold ResAt World.setCell
  simp [Array.getElem?_modify, show w.heap[R]? = _ from k]
theorem ResAt.lt {w : World} {R : Nat} {f : Int} (k : ResAt w R f) : R < w.heap.size := (Array.getElem?_eq_some_iff.1 k).1
abbrev runW (w : World) (A : Option Addr) (n c : Nat) : World := (w.alloc (.cells #[.int .i64 0] 28)).alloc (.cells #[.slice A n c, .int .i64 0] 194)

set_option maxHeartbeats 8000000 in
/-- The reading panics. -/
theorem run_err (w : World) (A : Option Addr) (n c : Nat) (R T : Nat) (cr ct : Array Value) (f : Int) (J : World → Prop)
    (er : ∀ args w, (callFunc R args).run Try.prog w = .ok (.enter R args) w)
    (hread : Calls Try.prog R (#[.agg #[.pointer (some ⟨w.heap.size + 1, 0, none⟩)]] ++ cr) (runW w A n c) fun e w1 => e = .panicked (errCh f) ∧ ResAt w1 w.heap.size 0 ∧ J w1) :
    Calls Try.prog 92 #[.slice A n c, .func (.func R) #[] cr, .func (.func T) #[] ct] w fun e w' => e = .returned (.int .i64 f) ∧ ∃ w1, J w1 ∧ w' = w1.setCell ⟨w.heap.size, 0, none⟩ (.int .i64 f) := by
  have hmf : ∀ (fn : Fn) (first cap : Array Value) (w : World), (Instr.makeFunc fn first cap).run Try.prog w = .ok (.func fn first cap) w := fun _ _ _ _ => rfl
  have HR := Lib.hid hread
  clear hread
  go_enter_defers Try.func92, Try.ntmps92
  go_wp2_with (fail)
  refine HR.out.mono ?_
  rintro e w1 ⟨rfl, hres, hj⟩
  refine leaves_cons (f := 143) (args := #[.pointer (some ⟨w.heap.size, 0, none⟩)]) (by simp) (by simp [go_sem]) ?_
  refine (catch_err ⟨w.heap.size, 0, none⟩ _ f w1 hres.c0 hres.f).mono ?_
  rintro e u' w'' ⟨rfl, rfl, rfl⟩
  have hc := (hres.put f).c0
  simp [Leaves, settle, results, Try.results92, go_sem, hc]
  exact ⟨w1, hj, rfl⟩

set_option maxHeartbeats 8000000 in
/-- The reading ends ahead of the bytes' end. -/
theorem run_left (w : World) (A : Option Addr) (n c q : Nat) (R T : Nat) (cr ct : Array Value) (J : World → Prop) (hq : q < n)
    (er : ∀ args w, (callFunc R args).run Try.prog w = .ok (.enter R args) w)
    (hread : Calls Try.prog R (#[.agg #[.pointer (some ⟨w.heap.size + 1, 0, none⟩)]] ++ cr) (runW w A n c) fun e w1 => e = .returned (.tuple #[]) ∧ ResAt w1 w.heap.size 0 ∧ SpotAt w1 (w.heap.size + 1) A c n q ∧ J w1) :
    Calls Try.prog 92 #[.slice A n c, .func (.func R) #[] cr, .func (.func T) #[] ct] w fun e w' => e = .returned (.int .i64 4) ∧ ∃ w1, J w1 ∧ w' = w1.setCell ⟨w.heap.size, 0, none⟩ (.int .i64 4) := by
  have hmf : ∀ (fn : Fn) (first cap : Array Value) (w : World), (Instr.makeFunc fn first cap).run Try.prog w = .ok (.func fn first cap) w := fun _ _ _ _ => rfl
  have HR := Lib.hid hread
  clear hread
  have hlt : decide (q < n) = true := decide_eq_true hq
  have hlt2 : decide ((q : Int) < (n : Int)) = true := decide_eq_true (by omega)
  go_enter_defers Try.func92, Try.ntmps92
  go_wp2_with (fail)
  refine HR.out.mono ?_
  rintro e w1 ⟨rfl, hres, hs, hj⟩
  have d1 := hs.c1
  have HS := Lib.hid hs
  have HRS := Lib.hid hres
  clear hs hres
  go_wp2_with (go_at_call 144; refine (fail_yes _ _).mono ?_; rintro e w' ⟨rfl, rfl⟩)
  refine leaves_cons (f := 143) (args := #[.pointer (some ⟨w.heap.size, 0, none⟩)]) (by simp) (by simp [go_sem]) ?_
  refine (catch_err ⟨w.heap.size, 0, none⟩ _ 4 w1 HRS.out.c0 HRS.out.f).mono ?_
  rintro e u' w'' ⟨rfl, rfl, rfl⟩
  have hc := (HRS.out.put 4).c0
  simp [Leaves, settle, results, Try.results92, go_sem, hc]
  exact ⟨w1, hj, rfl⟩

set_option maxHeartbeats 8000000 in
/-- All bytes are read; what was read may not be. -/
theorem run_bad (w : World) (A : Option Addr) (n c : Nat) (R T : Nat) (cr ct : Array Value) (J : World → Prop) (er' : Int) (hne : er' ≠ 0)
    (er : ∀ args w, (callFunc R args).run Try.prog w = .ok (.enter R args) w) (et : ∀ args w, (callFunc T args).run Try.prog w = .ok (.enter T args) w)
    (hread : Calls Try.prog R (#[.agg #[.pointer (some ⟨w.heap.size + 1, 0, none⟩)]] ++ cr) (runW w A n c) fun e w1 => e = .returned (.tuple #[]) ∧ ResAt w1 w.heap.size 0 ∧ SpotAt w1 (w.heap.size + 1) A c n n ∧ J w1)
    (hright : ∀ w1, J w1 → Calls Try.prog T ct w1 fun e w2 => e = .returned (.int .i64 er') ∧ Below w1.heap.size w1 w2) :
    Calls Try.prog 92 #[.slice A n c, .func (.func R) #[] cr, .func (.func T) #[] ct] w fun e w' => e = .returned (.int .i64 4) ∧ ∃ w1 w2, J w1 ∧ Below w1.heap.size w1 w2 ∧ w' = w2.setCell ⟨w.heap.size, 0, none⟩ (.int .i64 4) := by
  have hmf : ∀ (fn : Fn) (first cap : Array Value) (w : World), (Instr.makeFunc fn first cap).run Try.prog w = .ok (.func fn first cap) w := fun _ _ _ _ => rfl
  have HR := Lib.hid hread
  have HT := Lib.hid hright
  clear hread hright
  have hneb : (er' != 0) = true := by simpa using hne
  go_enter_defers Try.func92, Try.ntmps92
  go_wp2_with (fail)
  refine HR.out.mono ?_
  rintro e w1 ⟨rfl, hres, hs, hj⟩
  have d1 := hs.c1
  have HS := Lib.hid hs
  have HRS := Lib.hid hres
  clear hs hres
  go_wp2_with (fail)
  refine (HT.out w1 hj).mono ?_
  rintro e w2 ⟨rfl, hb⟩
  have HS2 := Lib.hid (HS.out.below hb HS.out.lt)
  have hr2 : ResAt w2 w.heap.size 0 := (hb.block _ HRS.out.lt).trans HRS.out
  have HR2 := Lib.hid hr2
  have HBB := Lib.hid hb
  clear hr2 hb
  go_wp2_with (go_at_call 144; refine (fail_yes _ _).mono ?_; rintro e w' ⟨rfl, rfl⟩)
  refine leaves_cons (f := 143) (args := #[.pointer (some ⟨w.heap.size, 0, none⟩)]) (by simp) (by simp [go_sem]) ?_
  refine (catch_err ⟨w.heap.size, 0, none⟩ _ 4 w2 HR2.out.c0 HR2.out.f).mono ?_
  rintro e u' w'' ⟨rfl, rfl, rfl⟩
  have hc := (HR2.out.put 4).c0
  simp [Leaves, settle, results, Try.results92, go_sem, hc]
  exact ⟨w1, hj, w2, HBB.out, rfl⟩

set_option maxHeartbeats 8000000 in
/-- All bytes are read; what was read may be. -/
theorem run_good (w : World) (A : Option Addr) (n c : Nat) (R T : Nat) (cr ct : Array Value) (J : World → Prop)
    (er : ∀ args w, (callFunc R args).run Try.prog w = .ok (.enter R args) w) (et : ∀ args w, (callFunc T args).run Try.prog w = .ok (.enter T args) w)
    (hread : Calls Try.prog R (#[.agg #[.pointer (some ⟨w.heap.size + 1, 0, none⟩)]] ++ cr) (runW w A n c) fun e w1 => e = .returned (.tuple #[]) ∧ ResAt w1 w.heap.size 0 ∧ SpotAt w1 (w.heap.size + 1) A c n n ∧ J w1)
    (hright : ∀ w1, J w1 → Calls Try.prog T ct w1 fun e w2 => e = .returned (.int .i64 0) ∧ Below w1.heap.size w1 w2) :
    Calls Try.prog 92 #[.slice A n c, .func (.func R) #[] cr, .func (.func T) #[] ct] w fun e w' => e = .returned (.int .i64 0) ∧ ∃ w1 w2, J w1 ∧ Below w1.heap.size w1 w2 ∧ w' = w2.setCell ⟨w.heap.size, 0, none⟩ (.int .i64 0) := by
  have hmf : ∀ (fn : Fn) (first cap : Array Value) (w : World), (Instr.makeFunc fn first cap).run Try.prog w = .ok (.func fn first cap) w := fun _ _ _ _ => rfl
  have HR := Lib.hid hread
  have HT := Lib.hid hright
  clear hread hright
  go_enter_defers Try.func92, Try.ntmps92
  go_wp2_with (fail)
  refine HR.out.mono ?_
  rintro e w1 ⟨rfl, hres, hs, hj⟩
  have d1 := hs.c1
  have HS := Lib.hid hs
  have HRS := Lib.hid hres
  clear hs hres
  go_wp2_with (fail)
  refine (HT.out w1 hj).mono ?_
  rintro e w2 ⟨rfl, hb⟩
  have HS2 := Lib.hid (HS.out.below hb HS.out.lt)
  have hr2 : ResAt w2 w.heap.size 0 := (hb.block _ HRS.out.lt).trans HRS.out
  have HR2 := Lib.hid hr2
  have HBB := Lib.hid hb
  have g0 := hr2.c0
  have gf := hr2.f
  clear hr2 hb
  go_wp2_with (go_at_call 144; refine (fail_no _ _).mono ?_; rintro e w' ⟨rfl, rfl⟩)
  refine leaves_cons (f := 143) (args := #[.pointer (some ⟨w.heap.size, 0, none⟩)]) (by simp) (by simp [go_sem]) ?_
  refine (catch_none ⟨w.heap.size, 0, none⟩ _).mono ?_
  rintro e u' w'' ⟨rfl, rfl, rfl⟩
  have hc := (HR2.out.put 0).c0
  simp [Leaves, settle, results, Try.results92, go_sem, hc]
  exact ⟨w1, hj, w2, HBB.out, rfl⟩
end Go.Proofs.Ytmbnjgnmblgjoaa.Man
