/- A chunk (layer 32) of the given program: what each of its calls comes to. -/
import Derived.Test.YtmbnjgnmblgjoaaFrame
import Derived.Laws.CopyOwn
namespace Go.Proofs.Ytmbnjgnmblgjoaa.Man
open Go.RowKit Go.Proofs.YtmbnjgnmblgjoaaW.PrintWords Go.Proofs.YtmbnjgnmblgjoaaW.PrintLast Go.Proofs.YtmbnjgnmblgjoaaW.PrintMore
set_option linter.unusedVariables false
set_option linter.unusedSimpArgs false
set_option maxRecDepth 100000

def ChunkAt (w : World) (B : Nat) (h : Int) (v : Value) (n : Int) : Prop := w.heap[B]? = some (.cells #[.int .i64 h, v, .int .i64 n] 151 (0, 0))
theorem ChunkAt.c0 {w : World} {B : Nat} {h n : Int} {v : Value} (k : ChunkAt w B h v n) : w.cell? ⟨B, 0, none⟩ = some (.int .i64 h) := by simp [World.cell?, show w.heap[B]? = _ from k]
theorem ChunkAt.c1 {w : World} {B : Nat} {h n : Int} {v : Value} (k : ChunkAt w B h v n) : w.cell? ⟨B, 1, none⟩ = some v := by simp [World.cell?, show w.heap[B]? = _ from k]
theorem ChunkAt.c2 {w : World} {B : Nat} {h n : Int} {v : Value} (k : ChunkAt w B h v n) : w.cell? ⟨B, 2, none⟩ = some (.int .i64 n) := by simp [World.cell?, show w.heap[B]? = _ from k]
theorem ChunkAt.f {w : World} {B : Nat} {h n : Int} {v : Value} (k : ChunkAt w B h v n) (j : Nat) : w.frozen? ⟨B, j, none⟩ = false := by simp [World.frozen?, show w.heap[B]? = _ from k]
theorem ChunkAt.lt {w : World} {B : Nat} {h n : Int} {v : Value} (k : ChunkAt w B h v n) : B < w.heap.size := (Array.getElem?_eq_some_iff.1 k).1
theorem ChunkAt.put0 {w : World} {B : Nat} {h n : Int} {v : Value} (k : ChunkAt w B h v n) (h' : Int) : ChunkAt (w.setCell ⟨B, 0, none⟩ (.int .i64 h')) B h' v n := by
  unfold ChunkAt World.setCell
  simp [Array.getElem?_modify, show w.heap[B]? = _ from k]
theorem ChunkAt.put1 {w : World} {B : Nat} {h n : Int} {v : Value} (k : ChunkAt w B h v n) (v' : Value) : ChunkAt (w.setCell ⟨B, 1, none⟩ v') B h v' n := by
  unfold ChunkAt World.setCell
  simp [Array.getElem?_modify, show w.heap[B]? = _ from k]
theorem ChunkAt.put2 {w : World} {B : Nat} {h n : Int} {v : Value} (k : ChunkAt w B h v n) (n' : Int) : ChunkAt (w.setCell ⟨B, 2, none⟩ (.int .i64 n')) B h v n' := by
  unfold ChunkAt World.setCell
  simp [Array.getElem?_modify, show w.heap[B]? = _ from k]
theorem ChunkAt.move {w w1 : World} {B : Nat} {h n : Int} {v : Value} (k : ChunkAt w B h v n) (hm : w1.heap[B]? = w.heap[B]?) : ChunkAt w1 B h v n := hm.trans k

/-- A chunk in block B: open (1) or over (2), the bytes that wait, how many frames were told. -/
structure ChunkS (w : World) (B : Nat) (h : Int) (v : Value) (xs : List Int) (n : Int) : Prop where
  at_ : ChunkAt w B h v n
  row : ∃ A c, v = .slice A xs.length c ∧ xs.length ≤ c ∧ Kd.C (Kd.int .u8) w A xs.length xs
  bytes : areBytesN xs = true
  typ : ∀ k, v.ownBlock = some k → ∃ cur, w.heap[k]? = some (.cells cur 5 (0, 0))
/-- A row that is read: its block stands. -/
theorem C_move {w w1 : World} {A : Option Addr} {n : Nat} {xs : List Int} (hr : Kd.C (Kd.int .u8) w A n xs) (hm : ∀ ad, A = some ad → w1.heap[ad.block]? = w.heap[ad.block]?) : Kd.C (Kd.int .u8) w1 A n xs := by
  have hR := Kd.reads_of_C (enc := Value.int .u8) (d := (0 : Int)) (h1 := fun _ => rfl) hr
  refine Kd.C_of_reads (d := (0 : Int)) (h1 := fun _ => rfl) ⟨hR.1, hR.2.1, fun h0 => ?_⟩
  obtain ⟨ad, e, hc⟩ := hR.2.2 h0
  refine ⟨ad, e, fun j hj => ?_⟩
  rw [← hc j hj]
  have hb : (ad.add j).block = ad.block := by unfold Addr.add; split <;> rfl
  unfold World.cell?
  rw [hb, hm ad e]
theorem ChunkS.grown {w w1 : World} {B : Nat} {h n : Int} {v : Value} {xs : List Int} (k : ChunkS w B h v xs n) {row : Option Nat} (hg : w.grownBy w1 row) (hB : row ≠ some B) (hr : ∀ j, v.ownBlock = some j → row ≠ some j) : ChunkS w1 B h v xs n := by
  obtain ⟨A, c, rfl, h1, h2⟩ := k.row
  have hm : ∀ j, Value.ownBlock (.slice A xs.length c) = some j → w1.heap[j]? = w.heap[j]? := fun j hj => by
    obtain ⟨cur, hc⟩ := k.typ j hj
    exact hg.block j (Array.getElem?_eq_some_iff.1 hc).1 (fun e => hr j hj e.symm)
  refine ⟨k.at_.move (hg.block _ k.at_.lt (fun e => hB e.symm)), ⟨A, c, rfl, h1, C_move h2 fun ad e => hm _ (by rw [e]; rfl)⟩, k.bytes, fun j hj => ?_⟩
  obtain ⟨cur, hc⟩ := k.typ j hj
  exact ⟨cur, (hm j hj).trans hc⟩
theorem ChunkS.below {w w1 : World} {B : Nat} {h n : Int} {v : Value} {xs : List Int} (k : ChunkS w B h v xs n) {m : Nat} (hb : Below m w w1) (hm : w.heap.size ≤ m) : ChunkS w1 B h v xs n := by
  obtain ⟨A, c, e, h1, h2⟩ := k.row
  have hb' : Below w.heap.size w w1 := hb.mono hm
  exact ⟨k.at_.move (hb'.block _ k.at_.lt), ⟨A, c, e, h1, Kd.C_below h2 hb'⟩, k.bytes, fun j hj => by
    obtain ⟨cur, hc⟩ := k.typ j hj
    exact ⟨cur, (hb'.block _ (Array.getElem?_eq_some_iff.1 hc).1).trans hc⟩⟩
/-- Another chunk has acted. -/
theorem ChunkS.other {w w1 : World} {B B' : Nat} {h n h' n' : Int} {v v' : Value} {xs xs' : List Int} (k : ChunkS w B h v xs n) (k' : ChunkS w B' h' v' xs' n') (hne : B ≠ B') (hg : w.grownBy w1 (some B')) : ChunkS w1 B h v xs n :=
  k.grown hg (by simpa using hne.symm) fun j hj e => by
    obtain ⟨cur, hc⟩ := k.typ j hj
    cases e
    rw [show w.heap[B']? = _ from k'.at_] at hc
    cases hc

/-- Its own block was written, its row stands. -/
theorem ChunkS.back {w w1 : World} {B : Nat} {h n h' n' : Int} {v : Value} {xs : List Int} (k : ChunkS w B h v xs n) (hg : w.grownBy w1 (some B)) (k' : ChunkAt w1 B h' v n') : ChunkS w1 B h' v xs n' := by
  obtain ⟨A, c, rfl, h1, h2⟩ := k.row
  have hm : ∀ j, Value.ownBlock (.slice A xs.length c) = some j → w1.heap[j]? = w.heap[j]? := fun j hj => by
    obtain ⟨cur, hc⟩ := k.typ j hj
    refine hg.block j (Array.getElem?_eq_some_iff.1 hc).1 (fun e => ?_)
    cases e
    rw [show w.heap[B]? = _ from k.at_] at hc
    cases hc
  refine ⟨k', ⟨A, c, rfl, h1, C_move h2 fun ad e => hm _ (by rw [e]; rfl)⟩, k.bytes, fun j hj => ?_⟩
  obtain ⟨cur, hc⟩ := k.typ j hj
  exact ⟨cur, (hm j hj).trans hc⟩

theorem chunkNew_is (w : World) : Calls Try.prog 41 #[] w fun e w' => e = .returned (.pointer (some ⟨w.heap.size, 0, none⟩)) ∧ ChunkS w' w.heap.size 1 (.slice none 0 0) [] 0 ∧ Below w.heap.size w w' := by
  go_enter Try.func41, Try.ntmps41
  go_wp2
  go_ret
  exact ⟨rfl, ⟨World.alloc_heap_new w _, ⟨none, 0, rfl, by simp, C_nil _ _⟩, rfl, fun j hj => by cases hj⟩, (Below.refl _ _).alloc (Nat.le_refl _) _⟩
theorem may_is {w : World} {B : Nat} {n : Int} {v : Value} {xs : List Int} (k : ChunkS w B 1 v xs n) : Calls Try.prog 101 #[.pointer (some ⟨B, 0, none⟩)] w fun e w' => e = .returned (.int .i64 0) ∧ w = w' := by
  have c0 := k.at_.c0
  clear k
  go_enter Try.func101, Try.ntmps101
  go_wp2
  go_ret
  exact ⟨rfl, rfl⟩
theorem may_over {w : World} {B : Nat} {n : Int} {v : Value} {xs : List Int} (k : ChunkS w B 2 v xs n) : Calls Try.prog 101 #[.pointer (some ⟨B, 0, none⟩)] w fun e w' => e = .returned (.int .i64 5) ∧ w = w' := by
  have c0 := k.at_.c0
  clear k
  go_enter Try.func101, Try.ntmps101
  go_wp2
  go_ret
  exact ⟨rfl, rfl⟩
theorem grownBy_set (w : World) (B k : Nat) (u : Value) {w0 : World} (h : w0.grownBy w (some B)) : w0.grownBy (w.setCell ⟨B, k, none⟩ u) (some B) :=
  ⟨h.os, h.tape, h.output, by simpa [World.setCell] using h.size, fun i hi hne => (Below.heap_setCell w ⟨B, k, none⟩ u i (fun e => hne (by rw [e]))).trans (h.block i hi hne)⟩
theorem end_is {w : World} {B : Nat} {h n : Int} {v : Value} {xs : List Int} (k : ChunkS w B h v xs n) : Calls Try.prog 102 #[.pointer (some ⟨B, 0, none⟩)] w fun e w' => e = .returned (.tuple #[]) ∧ ChunkS w' B 2 (.slice none 0 0) [] n ∧ w.grownBy w' (some B) := by
  have c0 := k.at_.c0
  have c1 := k.at_.c1
  have f0 := k.at_.f 0
  have f1 := k.at_.f 1
  have K := Lib.hid k
  clear k
  go_enter Try.func102, Try.ntmps102
  go_wp2
  go_end0
  exact ⟨rfl, ⟨(K.out.at_.put0 2).put1 _, ⟨none, 0, rfl, by simp, C_nil _ _⟩, rfl, fun j hj => by cases hj⟩, grownBy_set _ _ _ _ (grownBy_set _ _ _ _ (World.grownBy.refl w _))⟩
theorem waiting_is {w : World} {B : Nat} {h n : Int} {v : Value} {xs : List Int} (k : ChunkS w B h v xs n) : Calls Try.prog 45 #[.pointer (some ⟨B, 0, none⟩)] w fun e w' => e = .returned (.int .i64 (xs.length : Int)) ∧ w = w' := by
  have c1 := k.at_.c1
  obtain ⟨A, c, rfl, _, _⟩ := k.row
  clear k
  go_enter Try.func45, Try.ntmps45
  go_wp2
  go_ret
  exact ⟨rfl, rfl⟩
theorem frames_is {w : World} {B : Nat} {h n : Int} {v : Value} {xs : List Int} (k : ChunkS w B h v xs n) : Calls Try.prog 46 #[.pointer (some ⟨B, 0, none⟩)] w fun e w' => e = .returned (.int .i64 n) ∧ w = w' := by
  have c2 := k.at_.c2
  clear k
  go_enter Try.func46, Try.ntmps46
  go_wp2
  go_ret
  exact ⟨rfl, rfl⟩
def closeE (xs : List Int) : Int := if 0 < xs.length then 3 else 0
theorem close_is {w : World} {B : Nat} {n : Int} {v : Value} {xs : List Int} (k : ChunkS w B 1 v xs n) : Calls Try.prog 48 #[.pointer (some ⟨B, 0, none⟩)] w fun e w' => e = .returned (.int .i64 (closeE xs)) ∧ ChunkS w' B 2 (.slice none 0 0) [] n ∧ w.grownBy w' (some B) := by
  have c1 := k.at_.c1
  obtain ⟨A, c, rfl, _, _⟩ := k.row
  have K := Lib.hid k
  clear k
  unfold closeE
  by_cases h0 : 0 < xs.length
  · rw [if_pos h0]
    go_enter Try.func48, Try.ntmps48
    go_wp2_with (first
      | (go_at_call 101; refine (may_is K.out).mono ?_; rintro e w' ⟨rfl, rfl⟩)
      | (go_at_call 102; refine (end_is K.out).mono ?_; rintro e w1 ⟨rfl, hk, hg⟩; have HK := Lib.hid hk; have HG := Lib.hid hg; clear hk hg))
    go_ret
    exact ⟨rfl, HK.out, HG.out⟩
  · rw [if_neg h0]
    go_enter Try.func48, Try.ntmps48
    go_wp2_with (first
      | (go_at_call 101; refine (may_is K.out).mono ?_; rintro e w' ⟨rfl, rfl⟩)
      | (go_at_call 102; refine (end_is K.out).mono ?_; rintro e w1 ⟨rfl, hk, hg⟩; have HK := Lib.hid hk; have HG := Lib.hid hg; clear hk hg))
    go_ret
    exact ⟨rfl, HK.out, HG.out⟩
theorem close_over {w : World} {B : Nat} {n : Int} {v : Value} {xs : List Int} (k : ChunkS w B 2 v xs n) : Calls Try.prog 48 #[.pointer (some ⟨B, 0, none⟩)] w fun e w' => e = .returned (.int .i64 5) ∧ w = w' := by
  have K := Lib.hid k
  clear k
  go_enter Try.func48, Try.ntmps48
  go_wp2_with (go_at_call 101; refine (may_over K.out).mono ?_; rintro e w' ⟨rfl, rfl⟩)
  go_ret
  exact ⟨rfl, rfl⟩
theorem feed_over {w : World} {B : Nat} {n : Int} {v : Value} {xs : List Int} (k : ChunkS w B 2 v xs n) (A : Option Addr) (l c : Nat) : Calls Try.prog 42 #[.pointer (some ⟨B, 0, none⟩), .slice A l c] w fun e w' => e = .returned (.tuple #[.slice none 0 0, .int .i64 5]) ∧ w = w' := by
  have K := Lib.hid k
  clear k
  go_enter Try.func42, Try.ntmps42
  go_wp2_with (go_at_call 101; refine (may_over K.out).mono ?_; rintro e w' ⟨rfl, rfl⟩)
  go_ret2
  exact ⟨rfl, rfl⟩

end Go.Proofs.Ytmbnjgnmblgjoaa.Man
