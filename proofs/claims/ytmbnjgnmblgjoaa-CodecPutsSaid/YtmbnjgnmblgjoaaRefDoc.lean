/- The reference's writing of tokens, entries: what it comes to. -/
import Derived.Test.YtmbnjgnmblgjoaaRefW
import Derived.Test.YtmbnjgnmblgjoaaPutMsg
namespace Go.Proofs.Ytmbnjgnmblgjoaa.Man
open Go.RowKit Go.Proofs.YtmbnjgnmblgjoaaW.PrintWords Go.Proofs.YtmbnjgnmblgjoaaW.PrintLast Go.Proofs.YtmbnjgnmblgjoaaW.PrintMore
set_option linter.unusedVariables false
set_option linter.unusedSimpArgs false
set_option maxRecDepth 100000

/-- A row of bytes that is only read. -/
def BC (w : World) (v : Value) (xs : List Int) : Prop := ∃ A c, v = .slice A xs.length c ∧ Kd.C (Kd.int .u8) w A xs.length xs
theorem BC.of {w : World} {base : Nat} {v : Value} {xs : List Int} (h : BR w base v xs) : BC w v xs := by
  obtain ⟨A, c, rfl, _, hC⟩ := BR.len h
  exact ⟨A, c, rfl, hC⟩
theorem BC.below {w w1 : World} {v : Value} {xs : List Int} (h : BC w v xs) (hb : Below w.heap.size w w1) : BC w1 v xs := by
  obtain ⟨A, c, rfl, hC⟩ := h
  exact ⟨A, c, rfl, Kd.C_below hC hb⟩
theorem BC.nil (w : World) : BC w (.slice none 0 0) [] := ⟨none, 0, rfl, C_nil w .u8⟩
/-- Numbers that may be written. -/
def NumsOk (l : List Int) : Prop := ∀ i, i < l.length → 0 ≤ l.getD i 0 ∧ l.getD i 0 < 9223372036854775808

set_option maxHeartbeats 4000000 in
theorem rnums_is {w : World} {v : Value} {b : List Int} (hv : BC w v b) (A1 : Option Addr) (c1 : Nat) (l : List Int) (hl : Kd.C (Kd.int .i64) w A1 l.length l) (hn : NumsOk l) (hl5 : l.length ≤ 5) (hb : b.length ≤ 130000000000000) :
    Calls Try.prog 112 #[v, .slice A1 l.length c1] w fun e w' => ∃ v', e = .returned v' ∧ BC w' v' (b ++ vbs l) ∧ Below w.heap.size w w' := by
  have hvl := vbs_le l hn
  have HV := Lib.hid hv
  have HL := Lib.hid hl
  have HN := Lib.hid hn
  clear hv hl hn
  go_enter Try.func112, Try.ntmps112
  go_wp2
  go_loopg [0, 5] l.length (fun g s0 s5 wr => ∃ i : Nat, s5 = .int .i64 i ∧ i ≤ l.length ∧ g = l.length - i ∧ Hid (BC wr s0 (b ++ vbs (l.take i))) ∧ Hid (Below w.heap.size w wr))
  case atStart => exact ⟨0, rfl, Nat.zero_le _, rfl, Lib.hid (by simpa [vbs] using HV.out), Lib.hid (Below.refl _ _)⟩
  case round =>
    clear HV
    obtain ⟨i, rfl, hi, hg, HR, HB⟩ := hrel
    obtain ⟨ys, hys⟩ : ∃ ys, b ++ vbs (l.take i) = ys := ⟨_, rfl⟩
    rw [hys] at HR
    obtain ⟨A3, c3, rfl, hC3⟩ := HR.out
    have HC3 := Lib.hid hC3
    clear HR hC3
    by_cases hlt : i < l.length
    · have e1 := vbs_take_succ l i hlt
      have e2 := vbs_take_le l (i + 1)
      obtain ⟨ad, ea, hc⟩ := Kd.at_int (Kd.C_below HL.out HB.out) (i : Int) (by omega) (by omega)
      subst ea
      obtain ⟨hx0, hx1⟩ := HN.out i hlt
      have hrd : rd l (i : Int) = l.getD i 0 := rfl
      rw [hrd, Int.toNat_natCast] at hc
      clear hrd
      generalize l.getD i 0 = x at e1 hc hx0 hx1
      obtain ⟨n, rfl⟩ : ∃ n : Nat, x = (n : Int) := ⟨x.toNat, by omega⟩
      rw [Int.toNat_natCast] at e1
      have hz : ys ++ vb n = b ++ vbs (l.take (i + 1)) := by rw [e1, ← hys, List.append_assoc]
      have hroom : (ys ++ vbs [(n : Int)]).length ≤ 140737488355328 := by rw [vbs_one, hz]; rw [List.length_append]; omega
      have hU : IntKind.u64.wrap (n : Int) = (n : Int) := by rw [IntKind.wrap_u64]; omega
      have hbe : Below wr.heap.size wr (wr.alloc (.cells #[.int .u64 (n : Int)] 90)) := (Below.refl _ _).alloc (Nat.le_refl _) _
      have HO := Lib.hid (rput_is A3 (some ⟨wr.heap.size, 0, none⟩) c3 1 ys [(n : Int)] _ (Kd.C_below HC3.out hbe) (C_box wr .u64 (n : Int) 90) (u64_one n (by omega)) hroom)
      have HBE := Lib.hid (HB.out.trans (hbe.mono HB.out.size))
      have HZ := Lib.hid hz
      clear hz hroom e1 e2 hx0 hx1 hys hbe
      go_wp2_with (go_at_call 120; refine HO.out.mono ?_; rintro e w4 ⟨v4, rfl, hr, hb⟩; rw [vbs_one, HZ.out] at hr; have HR4 := Lib.hid (BC.of hr); have HB4 := Lib.hid (HBE.out.trans (hb.mono HBE.out.size)); clear hr hb)
      go_roundg (l.length - (i + 1))
      case measure => omega
      case rel => exact ⟨i + 1, by go_num, by omega, rfl, HR4, HB4⟩
    · obtain rfl : i = l.length := by omega
      rw [List.take_length] at hys
      have HYS := Lib.hid hys
      clear hys
      go_wp2
      go_ret
      exact ⟨_, rfl, by rw [HYS.out]; exact ⟨A3, c3, rfl, HC3.out⟩, HB.out⟩
/-- .. of numbers that the call has laid in a row. -/
theorem rnumsL {w : World} {v : Value} {b : List Int} (hv : BC w v b) (l : List Int) (cs : Array Value) (hcs : cs.toList = l.map (Value.int .i64)) (hl : l.length ≤ 5) (hn : NumsOk l) (hb : b.length ≤ 130000000000000) :
    Calls Try.prog 112 #[v, .slice (some ⟨w.heap.size, 0, none⟩) l.length l.length] (w.alloc (.cells cs 3)) fun e w' => ∃ v', e = .returned v' ∧ BC w' v' (b ++ vbs l) ∧ Below w.heap.size w w' := by
  have hbe : Below w.heap.size w (w.alloc (.cells cs 3)) := (Below.refl _ _).alloc (Nat.le_refl _) _
  refine (rnums_is (hv.below hbe) (some ⟨w.heap.size, 0, none⟩) l.length l (C_lit w .i64 l cs 3 hcs (by omega)) hn hl hb).mono ?_
  rintro e w1 ⟨v', rfl, h, hb1⟩
  exact ⟨v', rfl, h, hbe.trans (hb1.mono hbe.size)⟩
theorem rnums1 {w : World} {v : Value} {b : List Int} (hv : BC w v b) (n : Nat) (hn : n < 9223372036854775808) (hb : b.length ≤ 130000000000000) :
    Calls Try.prog 112 #[v, .slice (some ⟨w.heap.size, 0, none⟩) 1 1] (w.alloc (.cells #[.int .i64 (n : Int)] 3)) fun e w' => ∃ v', e = .returned v' ∧ BC w' v' (b ++ vb n) ∧ Below w.heap.size w w' := by
  have h := rnumsL hv [(n : Int)] #[.int .i64 (n : Int)] rfl (by simp) (getD_lt1 _ ⟨by omega, by omega⟩) hb
  rw [vbs_one] at h
  exact h

set_option maxHeartbeats 8000000 in
theorem rdocw_is {w : World} {v : Value} {b : List Int} (hv : BC w v b) (A : Option Addr) (c : Nat) (l : List K.S111) (hC : Kd.C K.k111 w A l.length l) (hl : l.length ≤ 2048) (hok : ∀ x ∈ l, TokOk x) (hb : b.length ≤ 120000000000000) :
    Calls Try.prog 106 #[v, .slice A l.length c] w fun e w' => ∃ v', e = .returned v' ∧ BC w' v' (b ++ docB l) ∧ Below w.heap.size w w' := by
  have hok2 : ∀ i, i < l.length → TokOk (l.getD i K.z111) := fun i hi => hok _ (by rw [show l.getD i K.z111 = l[i] by simp [List.getD, hi]]; exact List.getElem_mem hi)
  have htl : ∀ i, ((l.take i).flatMap tokB).length ≤ 20 * 2048 := fun i => by
    have h1 := toks_le (l.take i) (fun x hx => hok x (List.mem_of_mem_take hx))
    have h2 : (l.take i).length ≤ l.length := by rw [List.length_take]; omega
    omega
  have hv10 := vb_le10 l.length (by omega)
  have HN0 := Lib.hid (rnums1 hv l.length (by omega) (by omega))
  obtain ⟨A0, c0, rfl, _⟩ := hv
  have HC := Lib.hid hC
  have HOK := Lib.hid hok2
  have HTL := Lib.hid htl
  have HV := Lib.hid hv10
  clear hC hok hok2 htl hv10
  unfold docB
  rw [← List.append_assoc]
  obtain ⟨b1, hb1⟩ : ∃ b1, b ++ vb l.length = b1 := ⟨_, rfl⟩
  have hbl : b1.length ≤ 120000000000010 := by rw [← hb1, List.length_append]; have := HV.out; omega
  rw [hb1] at HN0 ⊢
  clear hb1
  go_enter Try.func106, Try.ntmps106
  go_wp2_with (go_at_call 112; refine HN0.out.mono ?_; rintro e w1 ⟨v1, rfl, hr, hb⟩; have HR1 := Lib.hid hr; have HB1 := Lib.hid hb; clear hr hb)
  go_loopg [0, 5] l.length (fun g s0 s5 wr => ∃ i : Nat, s5 = .int .i64 i ∧ i ≤ l.length ∧ g = l.length - i ∧ Hid (BC wr s0 (b1 ++ (l.take i).flatMap tokB)) ∧ Hid (Below w.heap.size w wr))
  case atStart => exact ⟨0, rfl, Nat.zero_le _, rfl, Lib.hid (by simpa using HR1.out), HB1⟩
  case round =>
    clear HR1 HB1 HN0
    obtain ⟨i, rfl, hi, hg, HR, HB⟩ := hrel
    by_cases hlt : i < l.length
    · obtain ⟨ad, ea, a0, a1, a2, a3⟩ := K.at_T111 (Kd.C_below HC.out HB.out) (i : Int) (by omega) (by omega)
      subst ea
      have hx := HOK.out i hlt
      have hsn := docB_snoc l i hlt
      have hrd : K.rd_T111 l (i : Int) = l.getD i K.z111 := by unfold K.rd_T111; rw [Int.toNat_natCast]
      rw [hrd, Int.toNat_natCast] at a0 a1 a2 a3
      clear hrd
      generalize l.getD i K.z111 = x at hx hsn a0 a1 a2 a3
      obtain ⟨k, t, n, m⟩ := x
      obtain ⟨h0k, h1k, h2t, h3t, h4n, h5n, h6m, h7m⟩ := hx
      simp only at h0k h1k h2t h3t h4n h5n h6m h7m a0 a1 a2 a3
      have hU1 : IntKind.i64.wrap (4 * n) = 4 * n := by rw [IntKind.wrap_i64]; omega
      obtain ⟨N, hN⟩ : ∃ N : Nat, k + 4 * n = (N : Int) := ⟨(k + 4 * n).toNat, by omega⟩
      have hN1 : N < 9000000000 := by omega
      have hU2 : IntKind.i64.wrap (k + 4 * n) = (N : Int) := by rw [IntKind.wrap_i64]; omega
      have htb : tokB ⟨k, t, n, m⟩ = vb N ++ (if k = 0 then vb m.toNat else if k = 1 ∨ k = 3 then vb t.toNat else []) := by
        unfold tokB
        simp only
        rw [hN, Int.toNat_natCast]
      have htlen := HTL.out i
      obtain ⟨ys, hys⟩ : ∃ ys, b1 ++ (l.take i).flatMap tokB = ys := ⟨_, rfl⟩
      have hyl : ys.length ≤ 120000000100000 := by rw [← hys, List.length_append]; omega
      rw [hys] at HR
      have hye : b1 ++ (l.take (i + 1)).flatMap tokB = ys ++ tokB ⟨k, t, n, m⟩ := by rw [hsn, ← List.append_assoc, hys]
      rw [htb] at hye
      obtain ⟨zs, hzs⟩ : ∃ zs, ys ++ vb N = zs := ⟨_, rfl⟩
      rw [← List.append_assoc, hzs] at hye
      have HYZ := Lib.hid hye
      have hzl : zs.length ≤ 120000000200000 := by rw [← hzs, List.length_append]; have h1 := vb_le10 N (by omega); omega
      obtain ⟨wt, hwt⟩ : ∃ wt, wt = wr.alloc (.cells #[.int .i64 k, .int .i64 t, .int .i64 n, .int .i64 m] 111) := ⟨_, rfl⟩
      have hbt : Below wr.heap.size wr wt := by rw [hwt]; exact (Below.refl _ _).alloc (Nat.le_refl _) _
      have hkt : TokAt wt wr.heap.size ⟨k, t, n, m⟩ := by rw [hwt]; exact World.alloc_heap_new wr _
      have hwz : wt.heap.size = wr.heap.size + 1 := by rw [hwt]; exact World.size_alloc _ _
      have hnum := rnums1 (HR.out.below hbt) N (by omega) (by omega)
      obtain ⟨A3, c3, rfl, _⟩ := HR.out
      rw [hwz, hzs] at hnum
      have HKT := Lib.hid hkt
      have HBT := Lib.hid (HB.out.trans (hbt.mono HB.out.size))
      have HWZ : Hid (wr.heap.size + 1 = wt.heap.size) := Lib.hid hwz.symm
      have hnum2 := hnum
      rw [hwt] at hnum2
      have HNUM := Lib.hid hnum2
      have HL2 := Lib.hid hzl
      have HWT := Lib.hid hwt
      clear hnum hnum2 hwz hys htb hsn hye hN hwt hbt hkt htlen hN1 hyl HR hzs hzl
      have HM : Hid (0 ≤ t ∧ t < 2147483648 ∧ 0 ≤ m ∧ m < 2147483648) := Lib.hid ⟨h2t, h3t, h6m, h7m⟩
      clear h4n h5n h2t h3t h6m h7m
      go_upto_region 7 with (go_at_call 112; refine HNUM.out.mono ?_; rintro e w2 ⟨v2, rfl, hr, hb⟩; rw [← HWT.out, HWZ.out] at hb; obtain ⟨A4, k4, rfl, hC4⟩ := hr; have HR2 := Lib.hid (show BC w2 _ _ from ⟨A4, k4, rfl, hC4⟩); have HB2 := Lib.hid (HBT.out.trans (hb.mono HBT.out.size)); have hk2 : TokAt w2 wr.heap.size ⟨k, t, n, m⟩ := (hb.block _ HKT.out.lt).trans HKT.out; have HK2 := Lib.hid hk2; have d0 := hk2.c0; have d1 := hk2.c1; have d3 := hk2.c3; clear hb hk2 hC4)
      rcases (show k = 0 ∨ k = 1 ∨ k = 2 ∨ k = 3 by omega) with rfl | rfl | rfl | rfl
      · obtain ⟨M, rfl⟩ : ∃ M : Nat, m = (M : Int) := ⟨m.toNat, by have := HM.out; omega⟩
        have HN2 := Lib.hid (rnums1 HR2.out M (by have := HM.out; omega) (by have := HL2.out; omega))
        clear HR2
        go_wp2_with (go_at_call 112; refine HN2.out.mono ?_; rintro e w3 ⟨v3, rfl, hr, hb⟩; obtain ⟨A5, k5, rfl, hC5⟩ := hr; have HR3 := Lib.hid (show BC w3 _ _ from ⟨A5, k5, rfl, hC5⟩); have HB3 := Lib.hid (HB2.out.trans (hb.mono HB2.out.size)); have hk3 : TokAt w3 wr.heap.size ⟨0, t, n, (M : Int)⟩ := (hb.block _ HK2.out.lt).trans HK2.out; have f0 := hk3.c0; have f1 := hk3.c1; clear hb hk3 hC5)
        go_roundg (l.length - (i + 1))
        case measure => omega
        case rel => exact ⟨i + 1, by go_num, by omega, rfl, Lib.hid (by rw [HYZ.out, if_pos (by simp), Int.toNat_natCast, ← List.length_append]; exact HR3.out), HB3⟩
      · obtain ⟨M, rfl⟩ : ∃ M : Nat, t = (M : Int) := ⟨t.toNat, by have := HM.out; omega⟩
        have HN2 := Lib.hid (rnums1 HR2.out M (by have := HM.out; omega) (by have := HL2.out; omega))
        clear HR2
        go_wp2_with (go_at_call 112; refine HN2.out.mono ?_; rintro e w3 ⟨v3, rfl, hr, hb⟩; obtain ⟨A5, k5, rfl, hC5⟩ := hr; have HR3 := Lib.hid (show BC w3 _ _ from ⟨A5, k5, rfl, hC5⟩); have HB3 := Lib.hid (HB2.out.trans (hb.mono HB2.out.size)); have hk3 : TokAt w3 wr.heap.size ⟨1, (M : Int), n, m⟩ := (hb.block _ HK2.out.lt).trans HK2.out; have f0 := hk3.c0; have f1 := hk3.c1; clear hb hk3 hC5)
        go_roundg (l.length - (i + 1))
        case measure => omega
        case rel => exact ⟨i + 1, by go_num, by omega, rfl, Lib.hid (by rw [HYZ.out, if_neg (by decide), if_pos (by simp), Int.toNat_natCast, ← List.length_append]; exact HR3.out), HB3⟩
      · go_wp2_with (fail)
        go_roundg (l.length - (i + 1))
        case measure => omega
        case rel => exact ⟨i + 1, by go_num, by omega, rfl, Lib.hid (by rw [HYZ.out, if_neg (by decide), if_neg (by decide), List.append_nil]; exact HR2.out), HB2⟩
      · obtain ⟨M, rfl⟩ : ∃ M : Nat, t = (M : Int) := ⟨t.toNat, by have := HM.out; omega⟩
        have HN2 := Lib.hid (rnums1 HR2.out M (by have := HM.out; omega) (by have := HL2.out; omega))
        clear HR2
        go_wp2_with (go_at_call 112; refine HN2.out.mono ?_; rintro e w3 ⟨v3, rfl, hr, hb⟩; obtain ⟨A5, k5, rfl, hC5⟩ := hr; have HR3 := Lib.hid (show BC w3 _ _ from ⟨A5, k5, rfl, hC5⟩); have HB3 := Lib.hid (HB2.out.trans (hb.mono HB2.out.size)); have hk3 : TokAt w3 wr.heap.size ⟨3, (M : Int), n, m⟩ := (hb.block _ HK2.out.lt).trans HK2.out; have f0 := hk3.c0; have f1 := hk3.c1; clear hb hk3 hC5)
        go_roundg (l.length - (i + 1))
        case measure => omega
        case rel => exact ⟨i + 1, by go_num, by omega, rfl, Lib.hid (by rw [HYZ.out, if_neg (by decide), if_pos (by simp), Int.toNat_natCast, ← List.length_append]; exact HR3.out), HB3⟩
    · obtain rfl : i = l.length := by omega
      rw [List.take_length] at HR
      obtain ⟨A3, c3, rfl, _⟩ := HR.out
      go_wp2
      go_ret
      exact ⟨_, rfl, HR.out, HB.out⟩

theorem numsOk5 {x : K.S26} (h : EntOk x) : NumsOk [x.f0, x.f1, x.f2.f0, x.f2.f1, x.f2.f2] := by
  obtain ⟨h1, h2, h3, h4, h5, h6, h7, h8, h9, h10, h11⟩ := h
  exact getD_lt5 _ _ _ _ _ (by omega) (by omega) (by omega) (by omega) (by omega)
theorem numsOk3 {x : K.S26} (h : EntOk x) : NumsOk [x.f2.f3, x.f2.f4, x.f2.f5] := by
  obtain ⟨h1, h2, h3, h4, h5, h6, h7, h8, h9, h10, h11⟩ := h
  exact getD_lt3 _ _ _ (by omega) (by omega) (by omega)

set_option maxHeartbeats 8000000 in
theorem rentryw_is {w : World} {v : Value} {b : List Int} (hv : BC w v b) (x : K.S26) (A : Option Addr) (c : Nat) (hC : Kd.C K.k111 w A x.f2.f6.length x.f2.f6) (hok : EntOk x) (hb : b.length ≤ 110000000000000) :
    Calls Try.prog 108 #[v, entV x A c] w fun e w' => ∃ v', e = .returned v' ∧ BC w' v' (b ++ entryB x) ∧ Below w.heap.size w w' := by
  have hn5 := numsOk5 hok
  have hn3 := numsOk3 hok
  obtain ⟨who, seq, ⟨k, f, t, gf, gt, ins, sl, m⟩⟩ := x
  obtain ⟨h1, h2, h3, h4, h5, h6, h7, h8, h9, h10, h11⟩ := hok
  simp only at h1 h2 h3 h4 h5 h6 h7 h8 h9 h10 h11 hC hn5 hn3 ⊢
  unfold entryB
  simp only
  have hbl5 := vbs_le _ hn5
  have hbl3 := vbs_le _ hn3
  simp only [List.length_cons, List.length_nil] at hbl5 hbl3
  obtain ⟨w1, hw1⟩ : ∃ w1, w1 = w.alloc (.cells #[.int .i64 who, .int .i64 seq, .int .i64 k, .int .i64 f, .int .i64 t, .int .i64 gf, .int .i64 gt, .int .i64 ins, .slice A sl.length c, .int .i64 m] 26) := ⟨_, rfl⟩
  have hb1 : Below w.heap.size w w1 := by rw [hw1]; exact (Below.refl _ _).alloc (Nat.le_refl _) _
  have hz1 : w1.heap.size = w.heap.size + 1 := by rw [hw1]; exact World.size_alloc _ _
  obtain ⟨w2, hw2⟩ : ∃ w2, w2 = w1.alloc (.cells #[.int .i64 k, .int .i64 f, .int .i64 t, .int .i64 gf, .int .i64 gt, .int .i64 ins, .slice A sl.length c, .int .i64 m] 24) := ⟨_, rfl⟩
  have hb2 : Below w1.heap.size w1 w2 := by rw [hw2]; exact (Below.refl _ _).alloc (Nat.le_refl _) _
  have hz2 : w2.heap.size = w.heap.size + 2 := by rw [hw2, World.size_alloc]; omega
  have hS2 : StepAt w2 (w.heap.size + 1) k f t gf gt ins A sl.length c m := by rw [← hz1, hw2]; exact World.alloc_heap_new w1 _
  have hB2 : Below w.heap.size w w2 := hb1.trans (hb2.mono hb1.size)
  have hnum := rnumsL ((hv.below hb1).below hb2) [who, seq, k, f, t] #[.int .i64 who, .int .i64 seq, .int .i64 k, .int .i64 f, .int .i64 t] rfl (by simp) hn5 (by omega)
  obtain ⟨A0, c0, rfl, _⟩ := hv
  obtain ⟨ys, hys⟩ : ∃ ys, b ++ vbs [who, seq, k, f, t] = ys := ⟨_, rfl⟩
  have hyl : ys.length ≤ 110000000001000 := by rw [← hys, List.length_append]; omega
  have hcs : Kd.C K.k111 w2 A sl.length sl := Kd.C_below hC hB2
  rw [hys] at hnum
  rw [hz2, hw2, hw1] at hnum
  rw [← List.append_assoc, hys]
  have HNUM := Lib.hid hnum
  have HB2 := Lib.hid hB2
  have HS2 := Lib.hid hS2
  have HC := Lib.hid hcs
  have HTOK := Lib.hid h11
  have HZ : Hid (w.heap.size + 2 = w2.heap.size) := Lib.hid hz2.symm
  have HW12 : Hid (w2 = (w.alloc (.cells #[.int .i64 who, .int .i64 seq, .int .i64 k, .int .i64 f, .int .i64 t, .int .i64 gf, .int .i64 gt, .int .i64 ins, .slice A sl.length c, .int .i64 m] 26)).alloc (.cells #[.int .i64 k, .int .i64 f, .int .i64 t, .int .i64 gf, .int .i64 gt, .int .i64 ins, .slice A sl.length c, .int .i64 m] 24)) := Lib.hid (by rw [hw2, hw1])
  have HN3 := Lib.hid hn3
  clear hC hcs hb hnum hB2 hS2 h11 hys hbl5 hn5 hb1 hb2 hw1 hw2 hz1 hz2 hn3
  go_enter Try.func108, Try.ntmps108
  go_upto_region 3 with (go_at_call 112; refine HNUM.out.mono ?_; rintro e w3 ⟨v3, rfl, hr, hb⟩; rw [← HW12.out, HZ.out] at hb; obtain ⟨A3, k3, rfl, hC3⟩ := hr; have HR3 := Lib.hid (show BC w3 _ _ from ⟨A3, k3, rfl, hC3⟩); have HB3 := Lib.hid (HB2.out.trans (hb.mono HB2.out.size)); have hS3 : StepAt w3 (w.heap.size + 1) k f t gf gt ins A sl.length c m := (hb.block _ HS2.out.lt).trans HS2.out; have HS3 := Lib.hid hS3; have HC3 := Lib.hid (Kd.C_below HC.out hb); have d0 := hS3.c0; have d3 := hS3.c3; have d4 := hS3.c4; have d5 := hS3.c5; have d6 := hS3.c6; have d7 := hS3.c7; clear hb hS3 hC3)
  rcases (show k = 0 ∨ k = 1 ∨ k = 2 ∨ k = 3 by omega) with rfl | rfl | rfl | rfl
  · go_wp2_with (go_at_call 106; refine (rdocw_is HR3.out A c sl HC3.out h10 HTOK.out (by omega)).mono ?_; rintro e w4 ⟨v4, rfl, hr, hb⟩; have HR4 := Lib.hid hr; have HB4 := Lib.hid (HB3.out.trans (hb.mono HB3.out.size)); clear hr hb)
    refine bodyPost_ret (results_tmp rfl _ _ _) rfl ?_
    exact ⟨_, rfl, by (try rw [if_neg (by decide)]); (try rw [if_neg (by decide)]); exact HR4.out, HB4.out⟩
  · have HNUM3 := Lib.hid (rnumsL HR3.out [gf, gt, ins] #[.int .i64 gf, .int .i64 gt, .int .i64 ins] rfl (by simp) HN3.out (by omega))
    obtain ⟨zs, hzs⟩ : ∃ zs, ys ++ vbs [gf, gt, ins] = zs := ⟨_, rfl⟩
    have hzl : zs.length ≤ 110000000002000 := by rw [← hzs, List.length_append]; omega
    rw [hzs] at HNUM3
    have HZS := Lib.hid hzs
    clear hzs
    go_wp2_with (first
      | (go_at_call 112; refine HNUM3.out.mono ?_; rintro e w4 ⟨v4, rfl, hr, hb⟩; obtain ⟨A4, k4, rfl, hC4⟩ := hr; have HR4 := Lib.hid (show BC w4 _ _ from ⟨A4, k4, rfl, hC4⟩); have HB4 := Lib.hid (HB3.out.trans (hb.mono HB3.out.size)); have hS4 : StepAt w4 (w.heap.size + 1) 1 f t gf gt ins A sl.length c m := (hb.block _ HS3.out.lt).trans HS3.out; have HC4 := Lib.hid (Kd.C_below HC3.out hb); have e6 := hS4.c6; clear hb hS4 hC4)
      | (go_at_call 106; refine (rdocw_is HR4.out A c sl HC4.out h10 HTOK.out (by omega)).mono ?_; rintro e w5 ⟨v5, rfl, hr, hb⟩; have HR5 := Lib.hid hr; have HB5 := Lib.hid (HB4.out.trans (hb.mono HB4.out.size)); clear hr hb))
    refine bodyPost_ret (results_tmp rfl _ _ _) rfl ?_
    exact ⟨_, rfl, by (try rw [if_neg (by decide)]); (try rw [if_pos rfl]); rw [← List.append_assoc, HZS.out]; exact HR5.out, HB5.out⟩
  · obtain ⟨M, rfl⟩ : ∃ M : Nat, m = (M : Int) := ⟨m.toNat, by omega⟩
    have HNM := Lib.hid (rnums1 HR3.out M (by omega) (by omega))
    go_wp2_with (go_at_call 112; refine HNM.out.mono ?_; rintro e w4 ⟨v4, rfl, hr, hb⟩; have HR4 := Lib.hid hr; have HB4 := Lib.hid (HB3.out.trans (hb.mono HB3.out.size)); clear hr hb)
    go_ret
    exact ⟨_, rfl, by (try rw [if_pos (by decide)]); rw [vbs_one]; exact HR4.out, HB4.out⟩
  · obtain ⟨M, rfl⟩ : ∃ M : Nat, m = (M : Int) := ⟨m.toNat, by omega⟩
    have HNM := Lib.hid (rnums1 HR3.out M (by omega) (by omega))
    go_wp2_with (go_at_call 112; refine HNM.out.mono ?_; rintro e w4 ⟨v4, rfl, hr, hb⟩; have HR4 := Lib.hid hr; have HB4 := Lib.hid (HB3.out.trans (hb.mono HB3.out.size)); clear hr hb)
    go_ret
    exact ⟨_, rfl, by (try rw [if_pos (by decide)]); rw [vbs_one]; exact HR4.out, HB4.out⟩
end Go.Proofs.Ytmbnjgnmblgjoaa.Man
