/- codec's writer: tokens' bytes. -/
import Derived.Test.YtmbnjgnmblgjoaaWriter
import Derived.Test.YtmbnjgnmblgjoaaKinds
namespace Go.Proofs.Ytmbnjgnmblgjoaa.Man
open Go.RowKit Go.Proofs.YtmbnjgnmblgjoaaW.PrintWords Go.Proofs.YtmbnjgnmblgjoaaW.PrintLast Go.Proofs.YtmbnjgnmblgjoaaW.PrintMore
set_option linter.unusedVariables false
set_option linter.unusedSimpArgs false
set_option maxRecDepth 100000

theorem WrS.below {w w1 : World} {base B n : Nat} {xs : List Int} (h : WrS w base B xs) (hb : Below n w w1) (hn : w.heap.size ≤ n) : WrS w1 base B xs := by
  obtain ⟨v, k, r⟩ := h.ex
  exact ⟨v, k.below hb hn, Kd.R_below r (hb.mono hn)⟩
theorem vb_le10 (n : Nat) (hn : n < 9223372036854775808) : (vb n).length ≤ 10 := vb_le_ten (by omega)
/-- One number more, boxed by the call. -/
theorem num1 {w : World} {base B : Nat} {xs : List Int} (hW : WrS w base B xs) (hB : base ≤ B) (hbase : base ≤ w.heap.size) (n : Nat) (hn : n < 9223372036854775808) (hroom : xs.length ≤ 100000000000000) :
    Calls Try.prog 110 #[.pointer (some ⟨B, 0, none⟩), .slice (some ⟨w.heap.size, 0, none⟩) 1 1] (w.alloc (.cells #[.int .i64 (n : Int)] 3)) fun e w' => e = .returned (.tuple #[]) ∧ WrS w' base B (xs ++ vb n) ∧ w.grownBy w' (some B) := by
  have hBl := hW.lt
  have hbe : Below base w (w.alloc (.cells #[.int .i64 (n : Int)] 3)) := (Below.refl _ _).alloc hbase _
  have hbe2 : Below w.heap.size w (w.alloc (.cells #[.int .i64 (n : Int)] 3)) := (Below.refl _ _).alloc (Nat.le_refl _) _
  have hsz : (w.alloc (.cells #[.int .i64 (n : Int)] 3)).heap.size = w.heap.size + 1 := World.size_alloc _ _
  have e0 : vbs [(n : Int)] = vb n := vbs_one n
  have hl := vb_le10 n hn
  have h := num_is (hW.below hbe2 (Nat.le_refl _)) (some ⟨w.heap.size, 0, none⟩) 1 [(n : Int)] (C_box w .i64 (n : Int) 3) (fun ad e => by cases e; exact ⟨fun e2 => (by have : w.heap.size = B := e2; omega), (by show w.heap.size < _; rw [hsz]; omega)⟩)
    (fun i hi => by have : i = 0 := (by simpa using hi); subst this; exact ⟨by show (0 : Int) ≤ (n : Int); omega, by show (n : Int) < _; omega⟩) (by rw [e0, List.length_append]; omega) (by rw [hsz]; omega)
  rw [e0] at h
  refine h.mono ?_
  rintro e w1 ⟨rfl, hw, hg⟩
  exact ⟨rfl, hw, (grown_of_below hbe2 _).trans hg⟩

/-- A token's bytes, tokens' bytes. -/
def tokB (x : K.S111) : List Int := vb (x.f0 + 4 * x.f2).toNat ++ (if x.f0 = 0 then vb x.f3.toNat else if x.f0 = 1 ∨ x.f0 = 3 then vb x.f1.toNat else [])
def docB (l : List K.S111) : List Int := vb l.length ++ l.flatMap tokB
/-- A token that may be written. -/
def TokOk (x : K.S111) : Prop := 0 ≤ x.f0 ∧ x.f0 ≤ 3 ∧ 0 ≤ x.f1 ∧ x.f1 < 2147483648 ∧ 0 ≤ x.f2 ∧ x.f2 < 2147483648 ∧ 0 ≤ x.f3 ∧ x.f3 < 2147483648
theorem tokB_le (x : K.S111) (h : TokOk x) : (tokB x).length ≤ 20 := by
  obtain ⟨h0, h1, h2, h3, h4, h5, h6, h7⟩ := h
  have a := vb_le10 (x.f0 + 4 * x.f2).toNat (by omega)
  have b := vb_le10 x.f3.toNat (by omega)
  have c := vb_le10 x.f1.toNat (by omega)
  unfold tokB
  rw [List.length_append]
  split
  · omega
  · split
    · omega
    · simp only [List.length_nil]; omega
theorem docB_snoc (l : List K.S111) (i : Nat) (h : i < l.length) : (l.take (i + 1)).flatMap tokB = (l.take i).flatMap tokB ++ tokB (l.getD i K.z111) := by
  rw [List.take_succ_eq_append_getElem h, List.flatMap_append]
  simp [List.getD, h]
theorem toks_le (l : List K.S111) (h : ∀ x ∈ l, TokOk x) : (l.flatMap tokB).length ≤ 20 * l.length := by
  induction l with
  | nil => simp
  | cons x l ih =>
    rw [List.flatMap_cons, List.length_append, List.length_cons]
    have := tokB_le x (h x List.mem_cons_self)
    have := ih fun y hy => h y (List.mem_cons_of_mem _ hy)
    omega

def TokAt (w : World) (P : Nat) (x : K.S111) : Prop := w.heap[P]? = some (.cells #[.int .i64 x.f0, .int .i64 x.f1, .int .i64 x.f2, .int .i64 x.f3] 111 (0, 0))
theorem TokAt.c0 {w : World} {P : Nat} {x : K.S111} (k : TokAt w P x) : w.cell? ⟨P, 0, none⟩ = some (.int .i64 x.f0) := by simp [World.cell?, show w.heap[P]? = _ from k]
theorem TokAt.c1 {w : World} {P : Nat} {x : K.S111} (k : TokAt w P x) : w.cell? ⟨P, 1, none⟩ = some (.int .i64 x.f1) := by simp [World.cell?, show w.heap[P]? = _ from k]
theorem TokAt.c2 {w : World} {P : Nat} {x : K.S111} (k : TokAt w P x) : w.cell? ⟨P, 2, none⟩ = some (.int .i64 x.f2) := by simp [World.cell?, show w.heap[P]? = _ from k]
theorem TokAt.c3 {w : World} {P : Nat} {x : K.S111} (k : TokAt w P x) : w.cell? ⟨P, 3, none⟩ = some (.int .i64 x.f3) := by simp [World.cell?, show w.heap[P]? = _ from k]
theorem TokAt.lt {w : World} {P : Nat} {x : K.S111} (k : TokAt w P x) : P < w.heap.size := (Array.getElem?_eq_some_iff.1 k).1

set_option maxHeartbeats 8000000 in
theorem wdoc_is {w0 w : World} {base B : Nat} {xs : List Int} (hW : WrS w base B xs) (hB : base ≤ B) (hbase : base ≤ w.heap.size) (A : Option Addr) (c : Nat) (l : List K.S111) (hC : Kd.C K.k111 w0 A l.length l) (hb : Below w0.heap.size w0 w) (h0 : w0.heap.size ≤ base)
    (hl : l.length ≤ 2048) (hok : ∀ x ∈ l, TokOk x) (hroom : xs.length ≤ 90000000000000) :
    Calls Try.prog 104 #[.pointer (some ⟨B, 0, none⟩), .slice A l.length c] w fun e w' => e = .returned (.tuple #[]) ∧ WrS w' base B (xs ++ docB l) ∧ w.grownBy w' (some B) := by
  have hCg : ∀ W, w.grownBy W (some B) → Kd.C K.k111 W A l.length l := fun W hg => Kd.C_below hC (hb.trans ⟨hg.os, hg.tape, hg.output, hg.size, fun k hk => hg.block k (by have := hb.size; omega) (by intro e; cases e; omega)⟩)
  have hok2 : ∀ i, i < l.length → TokOk (l.getD i K.z111) := fun i hi => hok _ (by rw [show l.getD i K.z111 = l[i] by simp [List.getD, hi]]; exact List.getElem_mem hi)
  have htl : ∀ i, ((l.take i).flatMap tokB).length ≤ 20 * 2048 := fun i => by
    have h1 := toks_le (l.take i) (fun x hx => hok x (List.mem_of_mem_take hx))
    have h2 : (l.take i).length ≤ l.length := by rw [List.length_take]; omega
    omega
  have hv10 := vb_le10 l.length (by omega)
  have HW := Lib.hid hW
  have HC := Lib.hid hCg
  have HOK := Lib.hid hok2
  have HTL := Lib.hid htl
  have HV := Lib.hid hv10
  clear hW hC hb hok hCg hok2 htl hv10
  go_enter Try.func104, Try.ntmps104
  go_wp2_with (go_at_call 110; refine (num1 HW.out hB hbase l.length (by omega) (by omega)).mono ?_; rintro e w1 ⟨rfl, hw, hg⟩; have HW1 := Lib.hid hw; have HG1 := Lib.hid hg; clear hw hg)
  go_loopg [13] l.length (fun g s13 wr => ∃ i : Nat, s13 = .int .i64 i ∧ i ≤ l.length ∧ g = l.length - i ∧ Hid (WrS wr base B (xs ++ vb l.length ++ (l.take i).flatMap tokB)) ∧ Hid (w.grownBy wr (some B)))
  case atStart => exact ⟨0, rfl, Nat.zero_le _, rfl, Lib.hid (by simpa using HW1.out), HG1⟩
  case round =>
    clear HW1 HG1 HW
    obtain ⟨i, rfl, hi, hg, HX, HG⟩ := hrel
    by_cases hlt : i < l.length
    · obtain ⟨ad, ea, a0, a1, a2, a3⟩ := K.at_T111 (HC.out _ HG.out) (i : Int) (by omega) (by omega)
      subst ea
      have hx := HOK.out i hlt
      have hsn := docB_snoc l i hlt
      have hrd : K.rd_T111 l (i : Int) = l.getD i K.z111 := by unfold K.rd_T111; rw [Int.toNat_natCast]
      rw [hrd, Int.toNat_natCast] at a0 a1 a2 a3
      clear hrd
      generalize l.getD i K.z111 = x at hx hsn a0 a1 a2 a3
      obtain ⟨k, t, n, m⟩ := x
      obtain ⟨h0k, h1k, h2t, h3t, h4n, h5n, h6m, h7m⟩ := hx
      simp only at h0k h1k h2t h3t h4n h5n h6m h7m a0 a1 a2 a3
      have hU1 : IntKind.i64.wrap (4 * n) = 4 * n := by rw [IntKind.wrap_i64]; omega
      obtain ⟨N, hN⟩ : ∃ N : Nat, k + 4 * n = (N : Int) := ⟨(k + 4 * n).toNat, by omega⟩
      have hN1 : N < 9000000000 := by omega
      have hU2 : IntKind.i64.wrap (k + 4 * n) = (N : Int) := by rw [IntKind.wrap_i64]; omega
      have htb : tokB ⟨k, t, n, m⟩ = vb N ++ (if k = 0 then vb m.toNat else if k = 1 ∨ k = 3 then vb t.toNat else []) := by
        unfold tokB
        simp only
        rw [hN, Int.toNat_natCast]
      have htlen := HTL.out i
      have hv10 := HV.out
      obtain ⟨ys, hys⟩ : ∃ ys, xs ++ vb l.length ++ (l.take i).flatMap tokB = ys := ⟨_, rfl⟩
      have hyl : ys.length ≤ 90000000100000 := by rw [← hys, List.length_append, List.length_append]; omega
      rw [hys] at HX
      have hye : xs ++ vb l.length ++ (l.take (i + 1)).flatMap tokB = ys ++ tokB ⟨k, t, n, m⟩ := by rw [hsn, ← List.append_assoc, hys]
      rw [htb] at hye
      have HYE := Lib.hid hye
      obtain ⟨wt, hwt⟩ : ∃ wt, wt = wr.alloc (.cells #[.int .i64 k, .int .i64 t, .int .i64 n, .int .i64 m] 111) := ⟨_, rfl⟩
      have hbt : Below wr.heap.size wr wt := by rw [hwt]; exact (Below.refl _ _).alloc (Nat.le_refl _) _
      have hkt : TokAt wt wr.heap.size ⟨k, t, n, m⟩ := by rw [hwt]; exact World.alloc_heap_new wr _
      have hgt : w.grownBy wt (some B) := HG.out.trans (grown_of_below hbt _)
      have hBt : B < wr.heap.size := HX.out.lt
      have hwz : wt.heap.size = wr.heap.size + 1 := by rw [hwt]; exact World.size_alloc _ _
      have HXT := Lib.hid (HX.out.below hbt (Nat.le_refl _))
      have HKT := Lib.hid hkt
      have HGT := Lib.hid hgt
      have HWT := Lib.hid hwt
      have HBT := Lib.hid hBt
      have hbw : base ≤ wt.heap.size := by have := hgt.size; omega
      have hnum := num1 HXT.out hB hbw N (by omega) (by omega)
      rw [hwz, hwt] at hnum
      have HNUM := Lib.hid hnum
      have HBW := Lib.hid hbw
      have HN1 := Lib.hid hN1
      have HYL := Lib.hid hyl
      clear hnum hwz hys htb hsn hye hN hwt hbt hkt hgt hBt hbw htlen hv10 hN1 hyl
      have HM : Hid (0 ≤ t ∧ t < 2147483648 ∧ 0 ≤ m ∧ m < 2147483648) := Lib.hid ⟨h2t, h3t, h6m, h7m⟩
      clear h4n h5n h2t h3t h6m h7m
      go_upto_region 5 with (go_at_call 110; refine HNUM.out.mono ?_; rintro e w2 ⟨rfl, hw, hg2⟩; rw [← HWT.out] at hg2; have HX2 := Lib.hid hw; have HG2 := Lib.hid (HGT.out.trans hg2); have hk2 : TokAt w2 wr.heap.size ⟨k, t, n, m⟩ := (hg2.block _ HKT.out.lt (by have := HBT.out; intro e; cases e; omega)).trans HKT.out; have d0 := hk2.c0; have d1 := hk2.c1; have d3 := hk2.c3; clear hw hg2 hk2)
      have HB2 : Hid (base ≤ w2.heap.size) := Lib.hid (Nat.le_trans hbase HG2.out.size)
      have HL2 : Hid ((ys ++ vb N).length ≤ 99000000000000) := Lib.hid (by have h1 := vb_le10 N (by have := HN1.out; omega); have := HYL.out; rw [List.length_append]; omega)
      rcases (show k = 0 ∨ k = 1 ∨ k = 2 ∨ k = 3 by omega) with rfl | rfl | rfl | rfl
      · obtain ⟨M, rfl⟩ : ∃ M : Nat, m = (M : Int) := ⟨m.toNat, by have := HM.out; omega⟩
        have HV2 : Hid (M < 9000000000) := Lib.hid (by have := HM.out; omega)
        go_wp2_with (go_at_call 110; refine (num1 HX2.out hB HB2.out M (by have := HV2.out; omega) (by have := HL2.out; omega)).mono ?_; rintro e w3 ⟨rfl, hw, hg3⟩; have HX3 := Lib.hid hw; have HG3 := Lib.hid (HG2.out.trans hg3); clear hw hg3)
        go_roundg (l.length - (i + 1))
        case measure => omega
        case rel => exact ⟨i + 1, by go_num, by omega, rfl, Lib.hid (by rw [HYE.out, if_pos (by simp), Int.toNat_natCast, ← List.append_assoc]; exact HX3.out), HG3⟩
      · obtain ⟨M, rfl⟩ : ∃ M : Nat, t = (M : Int) := ⟨t.toNat, by have := HM.out; omega⟩
        have HV2 : Hid (M < 9000000000) := Lib.hid (by have := HM.out; omega)
        go_wp2_with (go_at_call 110; refine (num1 HX2.out hB HB2.out M (by have := HV2.out; omega) (by have := HL2.out; omega)).mono ?_; rintro e w3 ⟨rfl, hw, hg3⟩; have HX3 := Lib.hid hw; have HG3 := Lib.hid (HG2.out.trans hg3); clear hw hg3)
        go_roundg (l.length - (i + 1))
        case measure => omega
        case rel => exact ⟨i + 1, by go_num, by omega, rfl, Lib.hid (by rw [HYE.out, if_neg (by decide), if_pos (by simp), Int.toNat_natCast, ← List.append_assoc]; exact HX3.out), HG3⟩
      · go_wp2_with (fail)
        go_roundg (l.length - (i + 1))
        case measure => omega
        case rel => exact ⟨i + 1, by go_num, by omega, rfl, Lib.hid (by rw [HYE.out, if_neg (by decide), if_neg (by decide), List.append_nil]; exact HX2.out), HG2⟩
      · obtain ⟨M, rfl⟩ : ∃ M : Nat, t = (M : Int) := ⟨t.toNat, by have := HM.out; omega⟩
        have HV2 : Hid (M < 9000000000) := Lib.hid (by have := HM.out; omega)
        go_wp2_with (go_at_call 110; refine (num1 HX2.out hB HB2.out M (by have := HV2.out; omega) (by have := HL2.out; omega)).mono ?_; rintro e w3 ⟨rfl, hw, hg3⟩; have HX3 := Lib.hid hw; have HG3 := Lib.hid (HG2.out.trans hg3); clear hw hg3)
        go_roundg (l.length - (i + 1))
        case measure => omega
        case rel => exact ⟨i + 1, by go_num, by omega, rfl, Lib.hid (by rw [HYE.out, if_neg (by decide), if_pos (by simp), Int.toNat_natCast, ← List.append_assoc]; exact HX3.out), HG3⟩
    · obtain rfl : i = l.length := by omega
      rw [List.take_length] at HX
      go_wp2
      go_end0
      exact ⟨rfl, by have := HX.out; rw [List.append_assoc] at this; exact this, HG.out⟩
end Go.Proofs.Ytmbnjgnmblgjoaa.Man
