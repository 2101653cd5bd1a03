/- codec's writer: numbers behind bytes; no tokens' bytes. -/
import Derived.Test.YtmbnjgnmblgjoaaFrame
import Derived.Test.YtmbnjgnmblgjoaaChunk
namespace Go.Proofs.Ytmbnjgnmblgjoaa.Man
open Go.RowKit Go.Proofs.YtmbnjgnmblgjoaaW.PrintWords Go.Proofs.YtmbnjgnmblgjoaaW.PrintLast Go.Proofs.YtmbnjgnmblgjoaaW.PrintMore
set_option linter.unusedVariables false
set_option linter.unusedSimpArgs false
set_option maxRecDepth 100000

def WrAt (w : World) (B : Nat) (v : Value) : Prop := w.heap[B]? = some (.cells #[v] 129 (0, 0))
theorem WrAt.c0 {w : World} {B : Nat} {v : Value} (k : WrAt w B v) : w.cell? ⟨B, 0, none⟩ = some v := by simp [World.cell?, show w.heap[B]? = _ from k]
theorem WrAt.f {w : World} {B : Nat} {v : Value} (k : WrAt w B v) : w.frozen? ⟨B, 0, none⟩ = false := by simp [World.frozen?, show w.heap[B]? = _ from k]
theorem WrAt.lt {w : World} {B : Nat} {v : Value} (k : WrAt w B v) : B < w.heap.size := (Array.getElem?_eq_some_iff.1 k).1
theorem WrAt.put {w : World} {B : Nat} {v : Value} (k : WrAt w B v) (v' : Value) : WrAt (w.setCell ⟨B, 0, none⟩ v') B v' := by
  unfold WrAt World.setCell
  simp [Array.getElem?_modify, show w.heap[B]? = _ from k]
theorem WrAt.below {w w1 : World} {B m : Nat} {v : Value} (k : WrAt w B v) (h : Below m w w1) (hm : w.heap.size ≤ m) : WrAt w1 B v := ((h.mono hm).block _ k.lt).trans k

theorem C_moveK {K : IntKind} {w w1 : World} {A : Option Addr} {n : Nat} {xs : List Int} (hr : Kd.C (Kd.int K) w A n xs) (hm : ∀ ad, A = some ad → w1.heap[ad.block]? = w.heap[ad.block]?) : Kd.C (Kd.int K) w1 A n xs := by
  have hR := Kd.reads_of_C (enc := Value.int K) (d := (0 : Int)) (h1 := fun _ => rfl) hr
  refine Kd.C_of_reads (d := (0 : Int)) (h1 := fun _ => rfl) ⟨hR.1, hR.2.1, fun h0 => ?_⟩
  obtain ⟨ad, e, hc⟩ := hR.2.2 h0
  refine ⟨ad, e, fun j hj => ?_⟩
  rw [← hc j hj]
  have hb : (ad.add j).block = ad.block := by unfold Addr.add; split <;> rfl
  unfold World.cell?
  rw [hb, hm ad e]
/-- A writer in block B: its bytes are its own. -/
structure WrS (w : World) (base B : Nat) (xs : List Int) : Prop where
  ex : ∃ v, WrAt w B v ∧ BR w base v xs
theorem WrS.lt {w : World} {base B : Nat} {xs : List Int} (h : WrS w base B xs) : B < w.heap.size := by
  obtain ⟨v, k, _⟩ := h.ex
  exact k.lt
theorem BR.set {w : World} {base B k : Nat} {v u : Value} {xs : List Int} (h : BR w base v xs) (hB : B < base) : BR (w.setCell ⟨B, k, none⟩ u) base v xs := by
  refine Kd.R_mono (Kd.R_grown (Kd.R_bound h) (grownBy_set w B k u (World.grownBy.refl w _)) (fun j hj e => ?_)) (fun _ _ => trivial)
  have h1 := hj.2.1
  cases e
  omega

theorem vbs_take_succ (l : List Int) (i : Nat) (h : i < l.length) : vbs (l.take (i + 1)) = vbs (l.take i) ++ vb (l.getD i 0).toNat := by
  rw [List.take_succ_eq_append_getElem h, vbs_snoc, getD_lt h]
theorem vbs_take_le (l : List Int) (i : Nat) : (vbs (l.take i)).length ≤ (vbs l).length := by
  have h : vbs l = vbs (l.take i) ++ vbs (l.drop i) := by
    conv => lhs; rw [← List.take_append_drop i l]
    unfold vbs
    rw [List.flatMap_append]
  rw [h, List.length_append]
  omega

set_option maxHeartbeats 8000000 in
theorem num_is {w : World} {base B : Nat} {xs : List Int} (hW : WrS w base B xs) (A : Option Addr) (c : Nat) (l : List Int) (hl : Kd.C (Kd.int .i64) w A l.length l) (hA : ∀ ad, A = some ad → ad.block ≠ B ∧ ad.block < w.heap.size)
    (hn : ∀ i, i < l.length → 0 ≤ l.getD i 0 ∧ l.getD i 0 < 9223372036854775808) (hroom : (xs ++ vbs l).length ≤ 140737488355328) (hbase : base ≤ w.heap.size) :
    Calls Try.prog 110 #[.pointer (some ⟨B, 0, none⟩), .slice A l.length c] w fun e w' => e = .returned (.tuple #[]) ∧ WrS w' base B (xs ++ vbs l) ∧ w.grownBy w' (some B) := by
  have hl1 : l.length ≤ 9223372036854775807 := hl.2.1
  have hCg : ∀ W, w.grownBy W (some B) → Kd.C (Kd.int .i64) W A l.length l := fun W h => C_moveK hl fun ad e => h.block _ (hA ad e).2 (by have := (hA ad e).1; intro e2; cases e2; exact this rfl)
  have hBl := hW.lt
  have HW := Lib.hid hW
  have HC := Lib.hid hCg
  have HN := Lib.hid hn
  clear hl hA hW hn hCg
  go_enter Try.func110, Try.ntmps110
  go_wp2
  go_loopg [8] l.length (fun g s8 wr => ∃ i : Nat, s8 = .int .i64 i ∧ i ≤ l.length ∧ g = l.length - i ∧ Hid (WrS wr base B (xs ++ vbs (l.take i))) ∧ Hid (w.grownBy wr (some B)))
  case atStart => exact ⟨0, rfl, Nat.zero_le _, rfl, Lib.hid (by simpa [vbs] using HW.out), Lib.hid (World.grownBy.refl w _)⟩
  case round =>
    obtain ⟨i, rfl, hi, hg, HX, HG⟩ := hrel
    have hsz : w.heap.size ≤ wr.heap.size := HG.out.size
    by_cases hlt : i < l.length
    · have e1 := vbs_take_succ l i hlt
      have e2 := vbs_take_le l (i + 1)
      obtain ⟨ad, ea, hc⟩ := Kd.at_int (HC.out _ HG.out) (i : Int) (by omega) (by omega)
      subst ea
      obtain ⟨hx0, hx1⟩ := HN.out i hlt
      have hrd : rd l (i : Int) = l.getD i 0 := rfl
      rw [hrd, Int.toNat_natCast] at hc
      clear hrd
      generalize l.getD i 0 = x at e1 hc hx0 hx1
      obtain ⟨n, rfl⟩ : ∃ n : Nat, x = (n : Int) := ⟨x.toNat, by omega⟩
      rw [Int.toNat_natCast] at e1
      rw [e1] at e2
      rw [List.length_append] at e2 hroom
      obtain ⟨ys, hys⟩ : ∃ ys, xs ++ vbs (l.take i) = ys := ⟨_, rfl⟩
      have hyl : (ys ++ vb n).length ≤ 140737488355328 := by rw [← hys, List.length_append, List.length_append]; omega
      have hye : xs ++ vbs (l.take (i + 1)) = ys ++ vb n := by rw [e1, ← hys, List.append_assoc]
      rw [hys] at HX
      obtain ⟨v, hk, hv⟩ := HX.out.ex
      obtain ⟨A1, k1, rfl, hk1, hC1⟩ := BR.len hv
      have HCY := Lib.hid hC1
      have c0 := hk.c0
      have HK := Lib.hid hk
      have hBw := hk.lt
      obtain ⟨zs, hzs⟩ : ∃ zs, ys ++ vb n = zs := ⟨_, rfl⟩
      have HZS := Lib.hid hzs
      rw [hzs] at hye
      have HE := Lib.hid hye
      have hU : IntKind.u64.wrap (n : Int) = (n : Int) := by rw [IntKind.wrap_u64]; omega
      have HBX := Lib.hid (C_box wr .u64 (n : Int) 90)
      have hbe : Below wr.heap.size wr (wr.alloc (.cells #[.int .u64 (n : Int)] 90)) := (Below.refl _ _).alloc (Nat.le_refl _) _
      have HBE := Lib.hid hbe
      have HUN := Lib.hid (u64_one n (by omega))
      have HYL : Hid ((ys ++ vbs [(n : Int)]).length ≤ 140737488355328) := Lib.hid (by rw [vbs_one]; exact hyl)
      clear hk hv hC1 hys e1 e2 hye hbe hzs hx0 hx1 hyl hroom
      go_wp2_with (go_at_call 89; refine (put_any A1 (some ⟨wr.heap.size, 0, none⟩) k1 1 ys [(n : Int)] _ (Kd.C_below HCY.out HBE.out) HBX.out HUN.out HYL.out).mono ?_; rintro e w1 ⟨v1, rfl, hr1, hb1⟩; rw [vbs_one, HZS.out] at hr1; obtain ⟨A2, k2, rfl, _, _⟩ := BR.len hr1; have HB1 := Lib.hid (HBE.out.trans (hb1.mono HBE.out.size)); have HR1 := Lib.hid (BR.set (k := 0) (u := .slice A2 zs.length k2) (B := B) (Kd.R_lower hr1 (Nat.le_refl _)) (Nat.lt_of_lt_of_le hBw HBE.out.size)); have HK1 := Lib.hid (HK.out.below HB1.out (Nat.le_refl _)); have f1 := HK1.out.f; have d1 := HK1.out.c0; clear hr1 hb1 hU c0 HUN)
      go_roundg (l.length - (i + 1))
      case measure => omega
      case rel => exact ⟨i + 1, by go_num, by omega, rfl, Lib.hid ⟨_, HK1.out.put _, by rw [HE.out]; exact Kd.R_lower HR1.out (by have := HBE.out.size; omega)⟩, Lib.hid (grownBy_set _ _ _ _ (HG.out.trans ⟨HB1.out.os, HB1.out.tape, HB1.out.output, HB1.out.size, fun j hj _ => HB1.out.block j hj⟩))⟩
    · obtain rfl : i = l.length := by omega
      rw [List.take_length] at HX
      go_wp2
      go_end0
      exact ⟨rfl, HX.out, HG.out⟩

theorem doc_nil (w : World) : Calls Try.prog 103 #[.slice none 0 0] w fun e w' => e = .returned (.int .i64 0) ∧ w = w' := by
  go_enter Try.func103, Try.ntmps103
  go_wp2
  go_loopg [10] 1 (fun g s10 wr => s10 = .int .i64 0 ∧ w = wr)
  case atStart => exact ⟨rfl, rfl⟩
  case round =>
    obtain ⟨rfl, rfl⟩ := hrel
    go_wp2
    go_ret
    exact ⟨rfl, rfl⟩

theorem wdoc_nil {w : World} {base B : Nat} (hW : WrS w base B []) (hbase : base ≤ w.heap.size) (hB : base ≤ B) :
    Calls Try.prog 104 #[.pointer (some ⟨B, 0, none⟩), .slice none 0 0] w fun e w' => e = .returned (.tuple #[]) ∧ WrS w' base B [0] ∧ Below base w w' := by
  have hBl := hW.lt
  have HC := Lib.hid (C_box w .i64 0 3)
  have hbe : Below base w (w.alloc (.cells #[.int .i64 0] 3)) := (Below.refl _ _).alloc hbase _
  have hbe2 : Below w.heap.size w (w.alloc (.cells #[.int .i64 0] 3)) := (Below.refl _ _).alloc (Nat.le_refl _) _
  have hW2 : WrS (w.alloc (.cells #[.int .i64 0] 3)) base B [] := by
    obtain ⟨v, k, r⟩ := hW.ex
    exact ⟨v, k.below hbe2 (Nat.le_refl _), Kd.R_below r hbe2⟩
  have HW := Lib.hid hW2
  have HE := Lib.hid hbe
  have hsz : (w.alloc (.cells #[.int .i64 0] 3)).heap.size = w.heap.size + 1 := World.size_alloc _ _
  have HZ := Lib.hid hsz
  have HSZ : Hid (base ≤ (w.alloc (.cells #[.int .i64 0] 3)).heap.size) := Lib.hid (by rw [hsz]; omega)
  have e0 : ([] : List Int) ++ vbs [0] = [0] := by decide +kernel
  have E0 := Lib.hid e0
  clear hW hW2 hbe hbe2 hsz e0
  go_enter Try.func104, Try.ntmps104
  go_wp2_with (go_at_call 110; refine (num_is HW.out (some ⟨w.heap.size, 0, none⟩) 1 [0] HC.out (fun ad e => by cases e; exact ⟨fun e2 => (by have : w.heap.size = B := e2; omega), (by show w.heap.size < _; rw [HZ.out]; omega)⟩) (fun i hi => by have : i = 0 := (by simpa using hi); subst this; decide) (by rw [E0.out]; decide) HSZ.out).mono ?_; rintro e w1 ⟨rfl, hw, hg⟩; rw [E0.out] at hw; have HW1 := Lib.hid hw; have HB1 := Lib.hid (HE.out.grown hg (by have := HZ.out; omega) (fun k e => by cases e; exact hB)); clear hw hg)
  go_loopg [13] 1 (fun g s13 wr => s13 = .int .i64 0 ∧ w1 = wr)
  case atStart => exact ⟨rfl, rfl⟩
  case round =>
    obtain ⟨rfl, rfl⟩ := hrel
    go_wp2
    go_end0
    exact ⟨rfl, HW1.out, HB1.out⟩

theorem putDoc_nil (w : World) : Calls Try.prog 49 #[.slice none 0 0] w fun e w' => ∃ v, e = .returned (.tuple #[v, .int .i64 0]) ∧ BR w' w.heap.size v [0] ∧ Below w.heap.size w w' := by
  have hbe : Below w.heap.size w (w.alloc (.cells #[.slice none 0 0] 129)) := (Below.refl _ _).alloc (Nat.le_refl _) _
  have hW : WrS (w.alloc (.cells #[.slice none 0 0] 129)) w.heap.size w.heap.size [] := ⟨_, World.alloc_heap_new w _, Kd.R_nil _ _ _ _ _⟩
  have HE := Lib.hid hbe
  have HW := Lib.hid hW
  clear hbe hW
  go_enter Try.func49, Try.ntmps49
  go_wp2_with (first
    | (go_at_call 103; refine (doc_nil _).mono ?_; rintro e w' ⟨rfl, rfl⟩)
    | (go_at_call 104; refine (wdoc_nil HW.out HE.out.size (Nat.le_refl _)).mono ?_; rintro e w1 ⟨rfl, hw, hb⟩; obtain ⟨v1, hk, hv⟩ := hw.ex; have HR := Lib.hid hv; have HB := Lib.hid (HE.out.trans hb); have c0 := hk.c0; clear hw hb hk hv))
  go_ret2
  exact ⟨v1, rfl, HR.out, HB.out⟩

theorem awake16_is (w : World) : Calls Try.prog 47 #[] w fun e w' => e = .returned (.bool true) ∧ Below w.heap.size w w' := by
  go_enter Try.func47, Try.ntmps47
  go_wp2_with (go_at_call 49; refine (putDoc_nil _).mono ?_; rintro e w1 ⟨v, rfl, hr, hb⟩; obtain ⟨A, k, rfl, _, _⟩ := BR.len hr; have HB := Lib.hid hb; clear hr hb)
  go_ret
  exact ⟨rfl, HB.out⟩
end Go.Proofs.Ytmbnjgnmblgjoaa.Man
