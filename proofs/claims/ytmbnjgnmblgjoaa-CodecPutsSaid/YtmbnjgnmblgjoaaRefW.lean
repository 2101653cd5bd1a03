/- The reference's writing of numbers: what it comes to. -/
import Derived.Test.YtmbnjgnmblgjoaaWriter
namespace Go.Proofs.Ytmbnjgnmblgjoaa.Man
open Go.RowKit Go.Proofs.YtmbnjgnmblgjoaaW.PrintWords Go.Proofs.YtmbnjgnmblgjoaaW.PrintLast Go.Proofs.YtmbnjgnmblgjoaaW.PrintMore
set_option linter.unusedVariables false
set_option linter.unusedSimpArgs false
set_option maxRecDepth 100000

theorem and127u (n : Nat) (hn : n < 18446744073709551616) : Go.bits .and .u64 (n : Int) 127 = ((n % 128 : Nat) : Int) := by
  have := bits_mask .u64 64 (by decide) (fun x h0 h1 => by
    have h1' : x < 18446744073709551616 := h1
    rw [IntKind.wrap_u64]; omega) 7 (by decide) (n : Int) (by omega) (show (n : Int) < 18446744073709551616 by omega)
  exact this.trans (by omega)
theorem or128u (m : Nat) (hm : m < 128) : Go.bits .or .u64 (m : Int) 128 = ((m + 128 : Nat) : Int) := by
  have := or_shl m 1 1 (by decide) (by omega) (by decide)
  simpa using this

theorem br_empty (W : World) (base : Nat) (hb : base ≤ W.heap.size) : BR (W.alloc (.cells #[] 5)) base (.slice (some ⟨W.heap.size, 0, none⟩) 0 0) [] :=
  Kd.R_of_own (by have := own_lit W base 5 .u8 [] hb (by simp); simpa [nums, encs] using this) (fun _ _ => trivial)

set_option maxHeartbeats 4000000 in
theorem one_is {w : World} {base : Nat} {v : Value} {xs : List Int} (hR : BR w base v xs) (hbase : base ≤ w.heap.size) (n : Nat) (hn : n < 18446744073709551616) (hroom : (xs ++ vb n).length ≤ 140737488355328) :
    Calls Try.prog 155 #[v, .int .u64 (n : Int)] w fun e w' => ∃ v', e = .returned v' ∧ BR w' base v' (xs ++ vb n) ∧ Below base w w' := by
  obtain ⟨A, c, rfl, _, _⟩ := BR.len hR
  have HR := Lib.hid hR
  have HRM := Lib.hid hroom
  obtain ⟨zs, hzs⟩ : ∃ zs, xs ++ vb n = zs := ⟨_, rfl⟩
  rw [hzs] at HRM ⊢
  have HZ := Lib.hid hzs
  clear hR hroom hzs
  go_enter Try.func155, Try.ntmps155
  go_wp2
  go_loopg [0, 1] n (fun g s0 s1 wr => ∃ (m : Nat) (ys : List Int), s1 = .int .u64 (m : Int) ∧ g = m ∧ m < 18446744073709551616 ∧ Hid (ys ++ vb m = zs) ∧ Hid (BR wr base s0 ys) ∧ Hid (Below base w wr))
  case atStart => exact ⟨n, xs, rfl, rfl, hn, HZ, HR, Lib.hid (Below.refl _ _)⟩
  case round =>
    clear HZ HR
    obtain ⟨m, ys, rfl, hg, hm, HZ, HR, HB⟩ := hrel
    obtain ⟨A1, c1, rfl, _, _⟩ := BR.len HR.out
    have hbw : base ≤ wr.heap.size := Nat.le_trans hbase HB.out.size
    by_cases hs : m < 128
    · have ht : decide (128 ≤ (m : Int)) = false := by rw [decide_eq_false_iff_not]; omega
      have hl : ys.length + 1 ≤ 140737488355328 := by have h1 := HRM.out; rw [← HZ.out, vb_small hs, List.length_append] at h1; simpa using h1
      have hz : ys ++ [(m : Int)] = zs := by rw [← HZ.out, vb_small hs]
      have HZZ := Lib.hid hz
      clear hz
      go_wp2_with (at_builtin; refine BR.push_ev (w := wr) (y := (m : Int)) HR.out rfl (.tmp 16) (.tmp 19) rfl rfl rfl hbw hl ?_; intro v5 w5 hr5 hb5 hat; rw [HZZ.out] at hr5; have HR5 := Lib.hid hr5; have HB5 := Lib.hid (HB.out.trans hb5); clear hr5 hb5 hat)
      go_ret
      exact ⟨v5, rfl, HR5.out, HB5.out⟩
    · have ht : decide (128 ≤ (m : Int)) = true := by rw [decide_eq_true_eq]; omega
      have ho : Go.bits .or .u64 (Go.bits .and .u64 (m : Int) 127) 128 = ((m % 128 + 128 : Nat) : Int) := by rw [and127u m hm, or128u _ (by omega)]
      obtain ⟨y, hy⟩ : ∃ y, ((m % 128 + 128 : Nat) : Int) = y := ⟨_, rfl⟩
      have hz : (ys ++ [y]) ++ vb (m / 128) = zs := by rw [← HZ.out, vb_great hs, ← hy, List.append_assoc]; rfl
      have hl : ys.length + 1 ≤ 140737488355328 := by have h1 := HRM.out; rw [← hz, List.length_append, List.length_append] at h1; simp only [List.length_cons, List.length_nil] at h1; omega
      rw [hy] at ho
      have hy0 : 0 ≤ y := by omega
      have hy1 : y ≤ 255 := by omega
      have HZZ := Lib.hid hz
      have hq : ((m / 128 : Nat) : Int) = (m : Int) / 128 := by omega
      have HQ := Lib.hid hq
      have hmd : m / 128 < m := by omega
      clear hz hy hq
      go_wp2_with (at_builtin; refine BR.push_ev (w := wr) (y := y) HR.out rfl (.tmp 7) (.tmp 12) rfl rfl rfl hbw hl ?_; intro v5 w5 hr5 hb5 hat; have HR5 := Lib.hid hr5; have HB5 := Lib.hid (HB.out.trans hb5); clear hr5 hb5 hat)
      go_roundg (m / 128)
      case measure => omega
      case rel => exact ⟨m / 128, ys ++ [y], by rw [HQ.out], rfl, by omega, HZZ, HR5, HB5⟩

set_option maxHeartbeats 4000000 in
theorem rput_is (A0 A1 : Option Addr) (c0 c1 : Nat) (b l : List Int) (w : World) (hb : Kd.C (Kd.int .u8) w A0 b.length b) (hl : Kd.C (Kd.int .u64) w A1 l.length l) (hU : areU64 l = true) (hroom : (b ++ vbs l).length ≤ 140737488355328) :
    Calls Try.prog 120 #[.slice A0 b.length c0, .slice A1 l.length c1] w fun e w' => ∃ v, e = .returned v ∧ BR w' w.heap.size v (b ++ vbs l) ∧ Below w.heap.size w w' := by
  have hl1 : l.length ≤ 9223372036854775807 := hl.2.1
  have HC := Lib.hid hb
  have HL := Lib.hid hl
  have HU := Lib.hid hU
  have HRM := Lib.hid hroom
  have HE := Lib.hid (br_empty w w.heap.size (Nat.le_refl _))
  have HBE := Lib.hid ((Below.refl w.heap.size w).alloc (Nat.le_refl _) (.cells #[] 5))
  have hbl : b.length ≤ 140737488355328 := by have := hroom; rw [List.length_append] at this; omega
  clear hb hl hU hroom
  go_enter Try.func120, Try.ntmps120
  go_wp2_with (at_builtin; refine BR.append_ev (w := w.alloc (.cells #[] 5)) (base := w.heap.size) HE.out (Kd.C_below HC.out HBE.out) rfl (.tmp 7) (.tmp 8) rfl rfl rfl HBE.out.size (by simp only [List.length_nil]; omega) ?_; intro v2 w2 hr2 hb2 hat; rw [List.nil_append] at hr2; have HR2 := Lib.hid hr2; have HX2 := Lib.hid (HBE.out.trans hb2); clear hr2 hb2 hat)
  go_loopg [5, 6] l.length (fun g s5 s6 wr => ∃ i : Nat, s6 = .int .i64 i ∧ i ≤ l.length ∧ g = l.length - i ∧ Hid (BR wr w.heap.size s5 (b ++ vbs (l.take i))) ∧ Hid (Below w.heap.size w wr))
  case atStart => exact ⟨0, rfl, Nat.zero_le _, rfl, Lib.hid (by simpa [vbs] using HR2.out), HX2⟩
  case round =>
    clear HR2 HX2 HE HBE
    obtain ⟨i, rfl, hi, hg, HR, HB⟩ := hrel
    obtain ⟨ys, hys⟩ : ∃ ys, b ++ vbs (l.take i) = ys := ⟨_, rfl⟩
    rw [hys] at HR
    obtain ⟨A3, c3, rfl, _, _⟩ := BR.len HR.out
    by_cases hlt : i < l.length
    · have e1 := vbs_take_succ l i hlt
      have e2 := vbs_take_le l (i + 1)
      obtain ⟨ad, ea, hc⟩ := Kd.at_int (Kd.C_below HL.out HB.out) (i : Int) (by omega) (by omega)
      subst ea
      obtain ⟨hx0, hx1⟩ := areU64_get HU.out hlt
      have hrd : rd l (i : Int) = l.getD i 0 := rfl
      rw [hrd, Int.toNat_natCast] at hc
      clear hrd
      generalize l.getD i 0 = x at e1 hc hx0 hx1
      obtain ⟨n, rfl⟩ : ∃ n : Nat, x = (n : Int) := ⟨x.toNat, by omega⟩
      rw [Int.toNat_natCast] at e1
      have hz : ys ++ vb n = b ++ vbs (l.take (i + 1)) := by rw [e1, ← hys, List.append_assoc]
      have hroom : (ys ++ vb n).length ≤ 140737488355328 := by rw [hz]; have := HRM.out; rw [List.length_append] at this ⊢; omega
      have HO := Lib.hid (one_is HR.out HB.out.size n (by omega) hroom)
      have HZ := Lib.hid hz
      clear hz hroom e1 e2 hx0 hx1 hys
      go_wp2_with (go_at_call 155; refine HO.out.mono ?_; rintro e w4 ⟨v4, rfl, hr, hb⟩; have HR4 := Lib.hid hr; have HB4 := Lib.hid (HB.out.trans hb); clear hr hb)
      go_roundg (l.length - (i + 1))
      case measure => omega
      case rel => exact ⟨i + 1, by go_num, by omega, rfl, Lib.hid (by rw [← HZ.out]; exact HR4.out), HB4⟩
    · obtain rfl : i = l.length := by omega
      rw [List.take_length] at hys
      have HYS := Lib.hid hys
      clear hys
      go_wp2
      go_ret
      exact ⟨_, rfl, by rw [HYS.out]; exact HR.out, HB.out⟩
end Go.Proofs.Ytmbnjgnmblgjoaa.Man
