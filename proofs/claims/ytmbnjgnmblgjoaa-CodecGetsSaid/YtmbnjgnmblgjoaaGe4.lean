-- Laid together by a program of this session (wip/tools/shake.py). Not trusted: Lean checks it.
import Derived.Test.YtmbnjgnmblgjoaaGe3

-- RefGet
section
/- The reference's reading of a number, over numbers alone: as_ the program's. -/


namespace Go.Proofs.Ytmbnjgnmblgjoaa.Man
open Go.RowKit Go.Proofs.Ytmbnjgnmblgjoaa.K Go.Proofs.YtmbnjgnmblgjoaaW.PrintWords Go.Proofs.YtmbnjgnmblgjoaaW.PrintLast Go.Proofs.YtmbnjgnmblgjoaaW.PrintMore
set_option linter.unusedVariables false
set_option linter.unusedSimpArgs false
set_option maxRecDepth 100000

theorem shl_at (x : Int) (i : Nat) (hi : i ≤ 9) : shl .u64 x (wrap64 (7 * (i : Int))) = IntKind.u64.wrap (x * 2 ^ (7 * i)) := by
  have hw : wrap64 (7 * (i : Int)) = ((7 * i : Nat) : Int) := by unfold wrap64; omega
  rw [hw]
  unfold shl
  rw [Int.toNat_natCast, Nat.min_eq_left (show 7 * i ≤ IntKind.u64.bits by show 7 * i ≤ 64; omega)]
theorem put_together (n i : Nat) (c : Int) (hi : i ≤ 9) (hn : n < 128 ^ i) (h0 : 0 ≤ c) (h1 : c ≤ 255) (m : Nat) (hm : c % 128 = (m : Int)) (hroom : m * 128 ^ i < 18446744073709551616) :
    Go.bits .or .u64 (n : Int) (shl .u64 (IntKind.u64.wrap (Go.bits .and .u8 c 127)) (wrap64 (7 * (i : Int)))) = ((n + m * 128 ^ i : Nat) : Int) := by
  have hmm : m < 128 := by omega
  have e : IntKind.u64.wrap (c % 128) = (m : Int) := by rw [hm, IntKind.wrap_u64]; omega
  rw [shl_at _ i hi, and127 c h0 h1, e, shl_wrap (m : Int) m i rfl hroom, or_shl n m i hi hn hroom]

theorem wadd (p i : Nat) (h : p + i < 4611686018427387904) : wrap64 ((p : Int) + (i : Int)) = ((p + i : Nat) : Int) := by unfold wrap64; omega
theorem w7 (i : Nat) (h : i ≤ 9) : 0 ≤ wrap64 (7 * (i : Int)) := by
  have hw : wrap64 (7 * (i : Int)) = ((7 * i : Nat) : Int) := by unfold wrap64; omega
  rw [hw]; exact Int.natCast_nonneg _
theorem rd_at (b : List Int) (q : Nat) (h : q < b.length) : rd b (q : Int) = b[q] := by unfold rd; rw [Int.toNat_natCast]; simp [List.getD, h]
def sh (p : Nat) (r : Nat × Nat × Int) : Int × Int × Int := ((r.1 : Int), (p : Int) + (r.2.1 : Int), r.2.2)

theorem rget_run (b : List Int) (hB : areBytesN b = true) (p : Nat) (hlen : b.length ≤ 140737488351232) (d : Nat) : ∀ (k i n : Nat), 9 - i = d → i ≤ 9 → p + i ≤ b.length → n < 128 ^ i → 2 * d + 2 < k →
    emenderref01_Get.l0 k b (p : Int) (n : Int) (i : Int) = some (sh p (getL ((b.drop p).drop i) i n)) := by
  induction d with
  | zero =>
    intro k i n h1 h2 h3 hn hk
    obtain rfl : i = 9 := by omega
    obtain ⟨k, rfl⟩ : ∃ m, k = m + 1 := ⟨k - 1, by omega⟩
    obtain ⟨k, rfl⟩ : ∃ m, k = m + 1 := ⟨k - 1, by omega⟩
    rw [emenderref01_Get.l0, wadd p 9 (by omega), if_pos (by decide)]
    by_cases hge : p + 9 = b.length
    · rw [if_pos (by omega)]
      have : (b.drop p).drop 9 = [] := by rw [List.drop_drop]; exact List.drop_eq_nil_of_le (by omega)
      rw [this, getL, sh]
      have e : (b.length : Int) = (p : Int) + ((9 : Nat) : Int) := by omega
      rw [e]; rfl
    · have hlt : p + 9 < b.length := by omega
      have hrd := rd_at b (p + 9) hlt
      obtain ⟨c0, c1⟩ := getN_get hB hlt
      have hgd : b.getD (p + 9) 0 = b[p + 9] := by simp [List.getD, hlt]
      rw [hgd] at c0 c1
      have hdd : (b.drop p).drop 9 = b[p + 9] :: (b.drop p).drop 10 := by
        rw [List.drop_drop, List.drop_drop, List.drop_eq_getElem_cons (show p + 9 < b.length from hlt)]
      rw [if_neg (by omega), if_pos (by omega), if_pos (by omega), hrd, hdd, getL]
      generalize b[p + 9] = c at *
      clear hrd hgd hdd
      have e9 : (((9 : Nat) : Int) = 9) = True := by simp
      by_cases hz : c = 0
      · rw [if_pos hz, if_pos (by decide), emenderref01_Get.j2, if_pos rfl, if_pos (.inl ⟨by decide, hz⟩), wadd p 9 (by omega), sh]
        rfl
      · rw [if_neg hz, if_pos (by decide)]
        by_cases hg : c > 1
        · rw [decide_eq_true hg, emenderref01_Get.j2, if_pos rfl, if_pos (.inr ⟨rfl, hg⟩), wadd p 9 (by omega), sh]
          rfl
        · obtain rfl : c = 1 := by omega
          have hr := put_together n 9 1 (by decide) hn (by decide) (by decide) 1 (by decide) (by decide)
          rw [decide_eq_false hg, emenderref01_Get.j2, if_neg (by decide), if_pos (w7 9 (by decide)), if_pos (by decide), hr, if_neg (by simp), if_pos (by decide), wadd p 9 (by omega), sh, wrap_succ (p + 9) (by omega)]
          have e : ((p + 9 + 1 : Nat) : Int) = (p : Int) + ((9 + 1 : Nat) : Int) := by omega
          rw [e]; rfl
  | succ d ih =>
    intro k i n h1 h2 h3 hn hk
    obtain ⟨k, rfl⟩ : ∃ m, k = m + 1 := ⟨k - 1, by omega⟩
    obtain ⟨k, rfl⟩ : ∃ m, k = m + 1 := ⟨k - 1, by omega⟩
    have hi9 : i < 9 := by omega
    rw [emenderref01_Get.l0, wadd p i (by omega), if_pos (by omega)]
    by_cases hge : p + i = b.length
    · rw [if_pos (by omega)]
      have : (b.drop p).drop i = [] := by rw [List.drop_drop]; exact List.drop_eq_nil_of_le (by omega)
      rw [this, getL, sh]
      have e : (b.length : Int) = (p : Int) + (i : Int) := by omega
      rw [e]; rfl
    · have hlt : p + i < b.length := by omega
      have hrd := rd_at b (p + i) hlt
      obtain ⟨c0, c1⟩ := getN_get hB hlt
      have hgd : b.getD (p + i) 0 = b[p + i] := by simp [List.getD, hlt]
      rw [hgd] at c0 c1
      have hdd : (b.drop p).drop i = b[p + i] :: (b.drop p).drop (i + 1) := by
        rw [List.drop_drop, List.drop_drop, List.drop_eq_getElem_cons (show p + i < b.length from hlt)]
        rfl
      have ih' := fun n' hn' => ih k (i + 1) n' (by omega) (by omega) (by omega) hn' (by omega)
      rw [if_neg (by omega), if_pos (by omega), if_pos (by omega), hrd, hdd, getL]
      generalize b[p + i] = c at *
      clear hrd hgd hdd ih
      have hni : ¬ ((i : Int) = 9) := by omega
      have fin : ∀ (hbad : ¬ ((0 < i ∧ c = 0) ∨ (i = 9 ∧ 1 < c))), emenderref01_Get.j2 (k + 1) b (p : Int) (n : Int) (i : Int) c false = some (sh p (if (0 < i ∧ c = 0) ∨ (i = 9 ∧ 1 < c) then (0, i, 4) else if c < 128 then (n + c.toNat * 128 ^ i, i + 1, 0) else getL ((b.drop p).drop (i + 1)) (i + 1) (n + (c.toNat - 128) * 128 ^ i))) := by
        intro hbad
        rw [emenderref01_Get.j2, if_neg (by decide), if_pos (w7 i h2), if_neg hbad]
        by_cases hs : c < 128
        · have hr := put_together n i c h2 hn c0 c1 c.toNat (by omega) (room_at _ _ hi9 (by omega))
          rw [if_pos hs, hr, wadd p i (by omega), wrap_succ (p + i) (by omega), if_pos hs, sh]
          have : ((p + i + 1 : Nat) : Int) = (p : Int) + ((i + 1 : Nat) : Int) := by omega
          rw [this]
        · have hr := put_together n i c h2 hn c0 c1 (c.toNat - 128) (by omega) (room_at _ _ hi9 (by omega))
          rw [if_neg hs, hr, wrap_succ i (by omega), if_neg hs]
          refine ih' _ ?_
          have h2 : (c.toNat - 128 + 1) * 128 ^ i ≤ 128 * 128 ^ i := Nat.mul_le_mul_right _ (by omega)
          rw [pow128]
          rw [Nat.add_mul] at h2
          omega
      by_cases hz : c = 0
      · rw [if_pos hz]
        by_cases h0 : 0 < i
        · rw [if_pos (by omega), emenderref01_Get.j2, if_pos rfl, if_pos (.inl ⟨h0, hz⟩), wadd p i (by omega), sh]
          have e : ((p + i : Nat) : Int) = (p : Int) + (i : Int) := by omega
          rw [e]; rfl
        · rw [if_neg (by omega), if_neg hni]
          exact fin (by omega)
      · rw [if_neg hz, if_neg hni]
        exact fin (by omega)
theorem rget_f (b : List Int) (hB : areBytesN b = true) (p : Int) (k : Nat) (hlen : b.length ≤ 140737488351232) (hk : 30 ≤ k) : emenderref01_Get.f k b p = some (getF b p) := by
  obtain ⟨k, rfl⟩ : ∃ m, k = m + 1 := ⟨k - 1, by omega⟩
  unfold emenderref01_Get.f getF
  by_cases h0 : p < 0
  · rw [if_pos h0, emenderref01_Get.j0, if_pos rfl, if_pos (.inl h0)]
  · rw [if_neg h0]
    by_cases h1 : p > (b.length : Int)
    · rw [decide_eq_true h1, emenderref01_Get.j0, if_pos rfl, if_pos (.inr h1)]
    · rw [decide_eq_false h1, emenderref01_Get.j0, if_neg (by decide), if_neg (by omega)]
      obtain ⟨q, rfl⟩ : ∃ q : Nat, p = (q : Int) := ⟨p.toNat, by omega⟩
      have := rget_run b hB q hlen 9 k 0 0 (by decide) (by decide) (by omega) (by decide) (by omega)
      rw [List.drop_zero] at this
      exact this
set_option maxHeartbeats 4000000 in
theorem rget_is (A : Option Addr) (c : Nat) (b : List Int) (p : Nat) (w : World) (hC : Kd.C (Kd.int .u8) w A b.length b) (hc : b.length ≤ c) (hB : areBytesN b = true) (hl : b.length ≤ 140737488351232) :
    Calls Try.prog 156 #[.slice A b.length c, .int .i64 p] w fun e w' => e = .returned (.tuple #[.int .u64 (getF b p).1, .int .i64 (getF b p).2.1, .int .i64 (getF b p).2.2]) ∧ ∃ m, w' = w.drewN m :=
  (emenderref01_Get.calls 30 A c b p _ _ _ w hC hc (rget_f b hB p 30 hl (by omega))).mono fun _ _ ⟨e, h⟩ => ⟨e, h.out⟩
end Go.Proofs.Ytmbnjgnmblgjoaa.Man
end

-- RefW
section
/- The reference's writing of numbers: what it comes to. -/

namespace Go.Proofs.Ytmbnjgnmblgjoaa.Man
open Go.RowKit Go.Proofs.YtmbnjgnmblgjoaaW.PrintWords Go.Proofs.YtmbnjgnmblgjoaaW.PrintLast Go.Proofs.YtmbnjgnmblgjoaaW.PrintMore
set_option linter.unusedVariables false
set_option linter.unusedSimpArgs false
set_option maxRecDepth 100000

theorem and127u (n : Nat) (hn : n < 18446744073709551616) : Go.bits .and .u64 (n : Int) 127 = ((n % 128 : Nat) : Int) := by
  have := bits_mask .u64 64 (by decide) (fun x h0 h1 => by
    have h1' : x < 18446744073709551616 := h1
    rw [IntKind.wrap_u64]; omega) 7 (by decide) (n : Int) (by omega) (show (n : Int) < 18446744073709551616 by omega)
  exact this.trans (by omega)
theorem or128u (m : Nat) (hm : m < 128) : Go.bits .or .u64 (m : Int) 128 = ((m + 128 : Nat) : Int) := by
  have := or_shl m 1 1 (by decide) (by omega) (by decide)
  simpa using this

theorem br_empty (W : World) (base : Nat) (hb : base ≤ W.heap.size) : BR (W.alloc (.cells #[] 5)) base (.slice (some ⟨W.heap.size, 0, none⟩) 0 0) [] :=
  Kd.R_of_own (by have := own_lit W base 5 .u8 [] hb (by simp); simpa [nums, encs] using this) (fun _ _ => trivial)

set_option maxHeartbeats 4000000 in
theorem one_is {w : World} {base : Nat} {v : Value} {xs : List Int} (hR : BR w base v xs) (hbase : base ≤ w.heap.size) (n : Nat) (hn : n < 18446744073709551616) (hroom : (xs ++ vb n).length ≤ 140737488355328) :
    Calls Try.prog 155 #[v, .int .u64 (n : Int)] w fun e w' => ∃ v', e = .returned v' ∧ BR w' base v' (xs ++ vb n) ∧ Below base w w' := by
  obtain ⟨A, c, rfl, _, _⟩ := BR.len hR
  have HR := Lib.hid hR
  have HRM := Lib.hid hroom
  obtain ⟨zs, hzs⟩ : ∃ zs, xs ++ vb n = zs := ⟨_, rfl⟩
  rw [hzs] at HRM ⊢
  have HZ := Lib.hid hzs
  clear hR hroom hzs
  go_enter Try.func155, Try.ntmps155
  go_wp2
  go_loopg [0, 1] n (fun g s0 s1 wr => ∃ (m : Nat) (ys : List Int), s1 = .int .u64 (m : Int) ∧ g = m ∧ m < 18446744073709551616 ∧ Hid (ys ++ vb m = zs) ∧ Hid (BR wr base s0 ys) ∧ Hid (Below base w wr))
  case atStart => exact ⟨n, xs, rfl, rfl, hn, HZ, HR, Lib.hid (Below.refl _ _)⟩
  case round =>
    clear HZ HR
    obtain ⟨m, ys, rfl, hg, hm, HZ, HR, HB⟩ := hrel
    obtain ⟨A1, c1, rfl, _, _⟩ := BR.len HR.out
    have hbw : base ≤ wr.heap.size := Nat.le_trans hbase HB.out.size
    by_cases hs : m < 128
    · have ht : decide (128 ≤ (m : Int)) = false := by rw [decide_eq_false_iff_not]; omega
      have hl : ys.length + 1 ≤ 140737488355328 := by have h1 := HRM.out; rw [← HZ.out, vb_small hs, List.length_append] at h1; simpa using h1
      have hz : ys ++ [(m : Int)] = zs := by rw [← HZ.out, vb_small hs]
      have HZZ := Lib.hid hz
      clear hz
      go_wp2_with (at_builtin; refine BR.push_ev (w := wr) (y := (m : Int)) HR.out rfl (.tmp 16) (.tmp 19) rfl rfl rfl hbw hl ?_; intro v5 w5 hr5 hb5 hat; rw [HZZ.out] at hr5; have HR5 := Lib.hid hr5; have HB5 := Lib.hid (HB.out.trans hb5); clear hr5 hb5 hat)
      go_ret
      exact ⟨v5, rfl, HR5.out, HB5.out⟩
    · have ht : decide (128 ≤ (m : Int)) = true := by rw [decide_eq_true_eq]; omega
      have ho : Go.bits .or .u64 (Go.bits .and .u64 (m : Int) 127) 128 = ((m % 128 + 128 : Nat) : Int) := by rw [and127u m hm, or128u _ (by omega)]
      obtain ⟨y, hy⟩ : ∃ y, ((m % 128 + 128 : Nat) : Int) = y := ⟨_, rfl⟩
      have hz : (ys ++ [y]) ++ vb (m / 128) = zs := by rw [← HZ.out, vb_great hs, ← hy, List.append_assoc]; rfl
      have hl : ys.length + 1 ≤ 140737488355328 := by have h1 := HRM.out; rw [← hz, List.length_append, List.length_append] at h1; simp only [List.length_cons, List.length_nil] at h1; omega
      rw [hy] at ho
      have hy0 : 0 ≤ y := by omega
      have hy1 : y ≤ 255 := by omega
      have HZZ := Lib.hid hz
      have hq : ((m / 128 : Nat) : Int) = (m : Int) / 128 := by omega
      have HQ := Lib.hid hq
      have hmd : m / 128 < m := by omega
      clear hz hy hq
      go_wp2_with (at_builtin; refine BR.push_ev (w := wr) (y := y) HR.out rfl (.tmp 7) (.tmp 12) rfl rfl rfl hbw hl ?_; intro v5 w5 hr5 hb5 hat; have HR5 := Lib.hid hr5; have HB5 := Lib.hid (HB.out.trans hb5); clear hr5 hb5 hat)
      go_roundg (m / 128)
      case measure => omega
      case rel => exact ⟨m / 128, ys ++ [y], by rw [HQ.out], rfl, by omega, HZZ, HR5, HB5⟩

set_option maxHeartbeats 4000000 in
theorem rput_is (A0 A1 : Option Addr) (c0 c1 : Nat) (b l : List Int) (w : World) (hb : Kd.C (Kd.int .u8) w A0 b.length b) (hl : Kd.C (Kd.int .u64) w A1 l.length l) (hU : areU64 l = true) (hroom : (b ++ vbs l).length ≤ 140737488355328) :
    Calls Try.prog 120 #[.slice A0 b.length c0, .slice A1 l.length c1] w fun e w' => ∃ v, e = .returned v ∧ BR w' w.heap.size v (b ++ vbs l) ∧ Below w.heap.size w w' := by
  have hl1 : l.length ≤ 9223372036854775807 := hl.2.1
  have HC := Lib.hid hb
  have HL := Lib.hid hl
  have HU := Lib.hid hU
  have HRM := Lib.hid hroom
  have HE := Lib.hid (br_empty w w.heap.size (Nat.le_refl _))
  have HBE := Lib.hid ((Below.refl w.heap.size w).alloc (Nat.le_refl _) (.cells #[] 5))
  have hbl : b.length ≤ 140737488355328 := by have := hroom; rw [List.length_append] at this; omega
  clear hb hl hU hroom
  go_enter Try.func120, Try.ntmps120
  go_wp2_with (at_builtin; refine BR.append_ev (w := w.alloc (.cells #[] 5)) (base := w.heap.size) HE.out (Kd.C_below HC.out HBE.out) rfl (.tmp 7) (.tmp 8) rfl rfl rfl HBE.out.size (by simp only [List.length_nil]; omega) ?_; intro v2 w2 hr2 hb2 hat; rw [List.nil_append] at hr2; have HR2 := Lib.hid hr2; have HX2 := Lib.hid (HBE.out.trans hb2); clear hr2 hb2 hat)
  go_loopg [5, 6] l.length (fun g s5 s6 wr => ∃ i : Nat, s6 = .int .i64 i ∧ i ≤ l.length ∧ g = l.length - i ∧ Hid (BR wr w.heap.size s5 (b ++ vbs (l.take i))) ∧ Hid (Below w.heap.size w wr))
  case atStart => exact ⟨0, rfl, Nat.zero_le _, rfl, Lib.hid (by simpa [vbs] using HR2.out), HX2⟩
  case round =>
    clear HR2 HX2 HE HBE
    obtain ⟨i, rfl, hi, hg, HR, HB⟩ := hrel
    obtain ⟨ys, hys⟩ : ∃ ys, b ++ vbs (l.take i) = ys := ⟨_, rfl⟩
    rw [hys] at HR
    obtain ⟨A3, c3, rfl, _, _⟩ := BR.len HR.out
    by_cases hlt : i < l.length
    · have e1 := vbs_take_succ l i hlt
      have e2 := vbs_take_le l (i + 1)
      obtain ⟨ad, ea, hc⟩ := Kd.at_int (Kd.C_below HL.out HB.out) (i : Int) (by omega) (by omega)
      subst ea
      obtain ⟨hx0, hx1⟩ := areU64_get HU.out hlt
      have hrd : rd l (i : Int) = l.getD i 0 := rfl
      rw [hrd, Int.toNat_natCast] at hc
      clear hrd
      generalize l.getD i 0 = x at e1 hc hx0 hx1
      obtain ⟨n, rfl⟩ : ∃ n : Nat, x = (n : Int) := ⟨x.toNat, by omega⟩
      rw [Int.toNat_natCast] at e1
      have hz : ys ++ vb n = b ++ vbs (l.take (i + 1)) := by rw [e1, ← hys, List.append_assoc]
      have hroom : (ys ++ vb n).length ≤ 140737488355328 := by rw [hz]; have := HRM.out; rw [List.length_append] at this ⊢; omega
      have HO := Lib.hid (one_is HR.out HB.out.size n (by omega) hroom)
      have HZ := Lib.hid hz
      clear hz hroom e1 e2 hx0 hx1 hys
      go_wp2_with (go_at_call 155; refine HO.out.mono ?_; rintro e w4 ⟨v4, rfl, hr, hb⟩; have HR4 := Lib.hid hr; have HB4 := Lib.hid (HB.out.trans hb); clear hr hb)
      go_roundg (l.length - (i + 1))
      case measure => omega
      case rel => exact ⟨i + 1, by go_num, by omega, rfl, Lib.hid (by rw [← HZ.out]; exact HR4.out), HB4⟩
    · obtain rfl : i = l.length := by omega
      rw [List.take_length] at hys
      have HYS := Lib.hid hys
      clear hys
      go_wp2
      go_ret
      exact ⟨_, rfl, by rw [HYS.out]; exact HR.out, HB.out⟩
end Go.Proofs.Ytmbnjgnmblgjoaa.Man
end

-- RefDoc
section
/- The reference's writing of tokens, entries: what it comes to. -/


namespace Go.Proofs.Ytmbnjgnmblgjoaa.Man
open Go.RowKit Go.Proofs.YtmbnjgnmblgjoaaW.PrintWords Go.Proofs.YtmbnjgnmblgjoaaW.PrintLast Go.Proofs.YtmbnjgnmblgjoaaW.PrintMore
set_option linter.unusedVariables false
set_option linter.unusedSimpArgs false
set_option maxRecDepth 100000

/-- A row of bytes that is only read. -/
def BC (w : World) (v : Value) (xs : List Int) : Prop := ∃ A c, v = .slice A xs.length c ∧ Kd.C (Kd.int .u8) w A xs.length xs
theorem BC.of {w : World} {base : Nat} {v : Value} {xs : List Int} (h : BR w base v xs) : BC w v xs := by
  obtain ⟨A, c, rfl, _, hC⟩ := BR.len h
  exact ⟨A, c, rfl, hC⟩
theorem BC.below {w w1 : World} {v : Value} {xs : List Int} (h : BC w v xs) (hb : Below w.heap.size w w1) : BC w1 v xs := by
  obtain ⟨A, c, rfl, hC⟩ := h
  exact ⟨A, c, rfl, Kd.C_below hC hb⟩
theorem BC.nil (w : World) : BC w (.slice none 0 0) [] := ⟨none, 0, rfl, C_nil w .u8⟩
/-- Numbers that may be written. -/
def NumsOk (l : List Int) : Prop := ∀ i, i < l.length → 0 ≤ l.getD i 0 ∧ l.getD i 0 < 9223372036854775808

set_option maxHeartbeats 4000000 in
theorem rnums_is {w : World} {v : Value} {b : List Int} (hv : BC w v b) (A1 : Option Addr) (c1 : Nat) (l : List Int) (hl : Kd.C (Kd.int .i64) w A1 l.length l) (hn : NumsOk l) (hl5 : l.length ≤ 5) (hb : b.length ≤ 130000000000000) :
    Calls Try.prog 112 #[v, .slice A1 l.length c1] w fun e w' => ∃ v', e = .returned v' ∧ BC w' v' (b ++ vbs l) ∧ Below w.heap.size w w' := by
  have hvl := vbs_le l hn
  have HV := Lib.hid hv
  have HL := Lib.hid hl
  have HN := Lib.hid hn
  clear hv hl hn
  go_enter Try.func112, Try.ntmps112
  go_wp2
  go_loopg [0, 5] l.length (fun g s0 s5 wr => ∃ i : Nat, s5 = .int .i64 i ∧ i ≤ l.length ∧ g = l.length - i ∧ Hid (BC wr s0 (b ++ vbs (l.take i))) ∧ Hid (Below w.heap.size w wr))
  case atStart => exact ⟨0, rfl, Nat.zero_le _, rfl, Lib.hid (by simpa [vbs] using HV.out), Lib.hid (Below.refl _ _)⟩
  case round =>
    clear HV
    obtain ⟨i, rfl, hi, hg, HR, HB⟩ := hrel
    obtain ⟨ys, hys⟩ : ∃ ys, b ++ vbs (l.take i) = ys := ⟨_, rfl⟩
    rw [hys] at HR
    obtain ⟨A3, c3, rfl, hC3⟩ := HR.out
    have HC3 := Lib.hid hC3
    clear HR hC3
    by_cases hlt : i < l.length
    · have e1 := vbs_take_succ l i hlt
      have e2 := vbs_take_le l (i + 1)
      obtain ⟨ad, ea, hc⟩ := Kd.at_int (Kd.C_below HL.out HB.out) (i : Int) (by omega) (by omega)
      subst ea
      obtain ⟨hx0, hx1⟩ := HN.out i hlt
      have hrd : rd l (i : Int) = l.getD i 0 := rfl
      rw [hrd, Int.toNat_natCast] at hc
      clear hrd
      generalize l.getD i 0 = x at e1 hc hx0 hx1
      obtain ⟨n, rfl⟩ : ∃ n : Nat, x = (n : Int) := ⟨x.toNat, by omega⟩
      rw [Int.toNat_natCast] at e1
      have hz : ys ++ vb n = b ++ vbs (l.take (i + 1)) := by rw [e1, ← hys, List.append_assoc]
      have hroom : (ys ++ vbs [(n : Int)]).length ≤ 140737488355328 := by rw [vbs_one, hz]; rw [List.length_append]; omega
      have hU : IntKind.u64.wrap (n : Int) = (n : Int) := by rw [IntKind.wrap_u64]; omega
      have hbe : Below wr.heap.size wr (wr.alloc (.cells #[.int .u64 (n : Int)] 90)) := (Below.refl _ _).alloc (Nat.le_refl _) _
      have HO := Lib.hid (rput_is A3 (some ⟨wr.heap.size, 0, none⟩) c3 1 ys [(n : Int)] _ (Kd.C_below HC3.out hbe) (C_box wr .u64 (n : Int) 90) (u64_one n (by omega)) hroom)
      have HBE := Lib.hid (HB.out.trans (hbe.mono HB.out.size))
      have HZ := Lib.hid hz
      clear hz hroom e1 e2 hx0 hx1 hys hbe
      go_wp2_with (go_at_call 120; refine HO.out.mono ?_; rintro e w4 ⟨v4, rfl, hr, hb⟩; rw [vbs_one, HZ.out] at hr; have HR4 := Lib.hid (BC.of hr); have HB4 := Lib.hid (HBE.out.trans (hb.mono HBE.out.size)); clear hr hb)
      go_roundg (l.length - (i + 1))
      case measure => omega
      case rel => exact ⟨i + 1, by go_num, by omega, rfl, HR4, HB4⟩
    · obtain rfl : i = l.length := by omega
      rw [List.take_length] at hys
      have HYS := Lib.hid hys
      clear hys
      go_wp2
      go_ret
      exact ⟨_, rfl, by rw [HYS.out]; exact ⟨A3, c3, rfl, HC3.out⟩, HB.out⟩
/-- .. of numbers that the call has laid in a row. -/
theorem rnumsL {w : World} {v : Value} {b : List Int} (hv : BC w v b) (l : List Int) (cs : Array Value) (hcs : cs.toList = l.map (Value.int .i64)) (hl : l.length ≤ 5) (hn : NumsOk l) (hb : b.length ≤ 130000000000000) :
    Calls Try.prog 112 #[v, .slice (some ⟨w.heap.size, 0, none⟩) l.length l.length] (w.alloc (.cells cs 3)) fun e w' => ∃ v', e = .returned v' ∧ BC w' v' (b ++ vbs l) ∧ Below w.heap.size w w' := by
  have hbe : Below w.heap.size w (w.alloc (.cells cs 3)) := (Below.refl _ _).alloc (Nat.le_refl _) _
  refine (rnums_is (hv.below hbe) (some ⟨w.heap.size, 0, none⟩) l.length l (C_lit w .i64 l cs 3 hcs (by omega)) hn hl hb).mono ?_
  rintro e w1 ⟨v', rfl, h, hb1⟩
  exact ⟨v', rfl, h, hbe.trans (hb1.mono hbe.size)⟩
theorem rnums1 {w : World} {v : Value} {b : List Int} (hv : BC w v b) (n : Nat) (hn : n < 9223372036854775808) (hb : b.length ≤ 130000000000000) :
    Calls Try.prog 112 #[v, .slice (some ⟨w.heap.size, 0, none⟩) 1 1] (w.alloc (.cells #[.int .i64 (n : Int)] 3)) fun e w' => ∃ v', e = .returned v' ∧ BC w' v' (b ++ vb n) ∧ Below w.heap.size w w' := by
  have h := rnumsL hv [(n : Int)] #[.int .i64 (n : Int)] rfl (by simp) (getD_lt1 _ ⟨by omega, by omega⟩) hb
  rw [vbs_one] at h
  exact h

set_option maxHeartbeats 8000000 in
theorem rdocw_is {w : World} {v : Value} {b : List Int} (hv : BC w v b) (A : Option Addr) (c : Nat) (l : List K.S111) (hC : Kd.C K.k111 w A l.length l) (hl : l.length ≤ 2048) (hok : ∀ x ∈ l, TokOk x) (hb : b.length ≤ 120000000000000) :
    Calls Try.prog 106 #[v, .slice A l.length c] w fun e w' => ∃ v', e = .returned v' ∧ BC w' v' (b ++ docB l) ∧ Below w.heap.size w w' := by
  have hok2 : ∀ i, i < l.length → TokOk (l.getD i K.z111) := fun i hi => hok _ (by rw [show l.getD i K.z111 = l[i] by simp [List.getD, hi]]; exact List.getElem_mem hi)
  have htl : ∀ i, ((l.take i).flatMap tokB).length ≤ 20 * 2048 := fun i => by
    have h1 := toks_le (l.take i) (fun x hx => hok x (List.mem_of_mem_take hx))
    have h2 : (l.take i).length ≤ l.length := by rw [List.length_take]; omega
    omega
  have hv10 := vb_le10 l.length (by omega)
  have HN0 := Lib.hid (rnums1 hv l.length (by omega) (by omega))
  obtain ⟨A0, c0, rfl, _⟩ := hv
  have HC := Lib.hid hC
  have HOK := Lib.hid hok2
  have HTL := Lib.hid htl
  have HV := Lib.hid hv10
  clear hC hok hok2 htl hv10
  unfold docB
  rw [← List.append_assoc]
  obtain ⟨b1, hb1⟩ : ∃ b1, b ++ vb l.length = b1 := ⟨_, rfl⟩
  have hbl : b1.length ≤ 120000000000010 := by rw [← hb1, List.length_append]; have := HV.out; omega
  rw [hb1] at HN0 ⊢
  clear hb1
  go_enter Try.func106, Try.ntmps106
  go_wp2_with (go_at_call 112; refine HN0.out.mono ?_; rintro e w1 ⟨v1, rfl, hr, hb⟩; have HR1 := Lib.hid hr; have HB1 := Lib.hid hb; clear hr hb)
  go_loopg [0, 5] l.length (fun g s0 s5 wr => ∃ i : Nat, s5 = .int .i64 i ∧ i ≤ l.length ∧ g = l.length - i ∧ Hid (BC wr s0 (b1 ++ (l.take i).flatMap tokB)) ∧ Hid (Below w.heap.size w wr))
  case atStart => exact ⟨0, rfl, Nat.zero_le _, rfl, Lib.hid (by simpa using HR1.out), HB1⟩
  case round =>
    clear HR1 HB1 HN0
    obtain ⟨i, rfl, hi, hg, HR, HB⟩ := hrel
    by_cases hlt : i < l.length
    · obtain ⟨ad, ea, a0, a1, a2, a3⟩ := K.at_T111 (Kd.C_below HC.out HB.out) (i : Int) (by omega) (by omega)
      subst ea
      have hx := HOK.out i hlt
      have hsn := docB_snoc l i hlt
      have hrd : K.rd_T111 l (i : Int) = l.getD i K.z111 := by unfold K.rd_T111; rw [Int.toNat_natCast]
      rw [hrd, Int.toNat_natCast] at a0 a1 a2 a3
      clear hrd
      generalize l.getD i K.z111 = x at hx hsn a0 a1 a2 a3
      obtain ⟨k, t, n, m⟩ := x
      obtain ⟨h0k, h1k, h2t, h3t, h4n, h5n, h6m, h7m⟩ := hx
      simp only at h0k h1k h2t h3t h4n h5n h6m h7m a0 a1 a2 a3
      have hU1 : IntKind.i64.wrap (4 * n) = 4 * n := by rw [IntKind.wrap_i64]; omega
      obtain ⟨N, hN⟩ : ∃ N : Nat, k + 4 * n = (N : Int) := ⟨(k + 4 * n).toNat, by omega⟩
      have hN1 : N < 9000000000 := by omega
      have hU2 : IntKind.i64.wrap (k + 4 * n) = (N : Int) := by rw [IntKind.wrap_i64]; omega
      have htb : tokB ⟨k, t, n, m⟩ = vb N ++ (if k = 0 then vb m.toNat else if k = 1 ∨ k = 3 then vb t.toNat else []) := by
        unfold tokB
        simp only
        rw [hN, Int.toNat_natCast]
      have htlen := HTL.out i
      obtain ⟨ys, hys⟩ : ∃ ys, b1 ++ (l.take i).flatMap tokB = ys := ⟨_, rfl⟩
      have hyl : ys.length ≤ 120000000100000 := by rw [← hys, List.length_append]; omega
      rw [hys] at HR
      have hye : b1 ++ (l.take (i + 1)).flatMap tokB = ys ++ tokB ⟨k, t, n, m⟩ := by rw [hsn, ← List.append_assoc, hys]
      rw [htb] at hye
      obtain ⟨zs, hzs⟩ : ∃ zs, ys ++ vb N = zs := ⟨_, rfl⟩
      rw [← List.append_assoc, hzs] at hye
      have HYZ := Lib.hid hye
      have hzl : zs.length ≤ 120000000200000 := by rw [← hzs, List.length_append]; have h1 := vb_le10 N (by omega); omega
      obtain ⟨wt, hwt⟩ : ∃ wt, wt = wr.alloc (.cells #[.int .i64 k, .int .i64 t, .int .i64 n, .int .i64 m] 111) := ⟨_, rfl⟩
      have hbt : Below wr.heap.size wr wt := by rw [hwt]; exact (Below.refl _ _).alloc (Nat.le_refl _) _
      have hkt : TokAt wt wr.heap.size ⟨k, t, n, m⟩ := by rw [hwt]; exact World.alloc_heap_new wr _
      have hwz : wt.heap.size = wr.heap.size + 1 := by rw [hwt]; exact World.size_alloc _ _
      have hnum := rnums1 (HR.out.below hbt) N (by omega) (by omega)
      obtain ⟨A3, c3, rfl, _⟩ := HR.out
      rw [hwz, hzs] at hnum
      have HKT := Lib.hid hkt
      have HBT := Lib.hid (HB.out.trans (hbt.mono HB.out.size))
      have HWZ : Hid (wr.heap.size + 1 = wt.heap.size) := Lib.hid hwz.symm
      have hnum2 := hnum
      rw [hwt] at hnum2
      have HNUM := Lib.hid hnum2
      have HL2 := Lib.hid hzl
      have HWT := Lib.hid hwt
      clear hnum hnum2 hwz hys htb hsn hye hN hwt hbt hkt htlen hN1 hyl HR hzs hzl
      have HM : Hid (0 ≤ t ∧ t < 2147483648 ∧ 0 ≤ m ∧ m < 2147483648) := Lib.hid ⟨h2t, h3t, h6m, h7m⟩
      clear h4n h5n h2t h3t h6m h7m
      go_upto_region 7 with (go_at_call 112; refine HNUM.out.mono ?_; rintro e w2 ⟨v2, rfl, hr, hb⟩; rw [← HWT.out, HWZ.out] at hb; obtain ⟨A4, k4, rfl, hC4⟩ := hr; have HR2 := Lib.hid (show BC w2 _ _ from ⟨A4, k4, rfl, hC4⟩); have HB2 := Lib.hid (HBT.out.trans (hb.mono HBT.out.size)); have hk2 : TokAt w2 wr.heap.size ⟨k, t, n, m⟩ := (hb.block _ HKT.out.lt).trans HKT.out; have HK2 := Lib.hid hk2; have d0 := hk2.c0; have d1 := hk2.c1; have d3 := hk2.c3; clear hb hk2 hC4)
      rcases (show k = 0 ∨ k = 1 ∨ k = 2 ∨ k = 3 by omega) with rfl | rfl | rfl | rfl
      · obtain ⟨M, rfl⟩ : ∃ M : Nat, m = (M : Int) := ⟨m.toNat, by have := HM.out; omega⟩
        have HN2 := Lib.hid (rnums1 HR2.out M (by have := HM.out; omega) (by have := HL2.out; omega))
        clear HR2
        go_wp2_with (go_at_call 112; refine HN2.out.mono ?_; rintro e w3 ⟨v3, rfl, hr, hb⟩; obtain ⟨A5, k5, rfl, hC5⟩ := hr; have HR3 := Lib.hid (show BC w3 _ _ from ⟨A5, k5, rfl, hC5⟩); have HB3 := Lib.hid (HB2.out.trans (hb.mono HB2.out.size)); have hk3 : TokAt w3 wr.heap.size ⟨0, t, n, (M : Int)⟩ := (hb.block _ HK2.out.lt).trans HK2.out; have f0 := hk3.c0; have f1 := hk3.c1; clear hb hk3 hC5)
        go_roundg (l.length - (i + 1))
        case measure => omega
        case rel => exact ⟨i + 1, by go_num, by omega, rfl, Lib.hid (by rw [HYZ.out, if_pos (by simp), Int.toNat_natCast, ← List.length_append]; exact HR3.out), HB3⟩
      · obtain ⟨M, rfl⟩ : ∃ M : Nat, t = (M : Int) := ⟨t.toNat, by have := HM.out; omega⟩
        have HN2 := Lib.hid (rnums1 HR2.out M (by have := HM.out; omega) (by have := HL2.out; omega))
        clear HR2
        go_wp2_with (go_at_call 112; refine HN2.out.mono ?_; rintro e w3 ⟨v3, rfl, hr, hb⟩; obtain ⟨A5, k5, rfl, hC5⟩ := hr; have HR3 := Lib.hid (show BC w3 _ _ from ⟨A5, k5, rfl, hC5⟩); have HB3 := Lib.hid (HB2.out.trans (hb.mono HB2.out.size)); have hk3 : TokAt w3 wr.heap.size ⟨1, (M : Int), n, m⟩ := (hb.block _ HK2.out.lt).trans HK2.out; have f0 := hk3.c0; have f1 := hk3.c1; clear hb hk3 hC5)
        go_roundg (l.length - (i + 1))
        case measure => omega
        case rel => exact ⟨i + 1, by go_num, by omega, rfl, Lib.hid (by rw [HYZ.out, if_neg (by decide), if_pos (by simp), Int.toNat_natCast, ← List.length_append]; exact HR3.out), HB3⟩
      · go_wp2_with (fail)
        go_roundg (l.length - (i + 1))
        case measure => omega
        case rel => exact ⟨i + 1, by go_num, by omega, rfl, Lib.hid (by rw [HYZ.out, if_neg (by decide), if_neg (by decide), List.append_nil]; exact HR2.out), HB2⟩
      · obtain ⟨M, rfl⟩ : ∃ M : Nat, t = (M : Int) := ⟨t.toNat, by have := HM.out; omega⟩
        have HN2 := Lib.hid (rnums1 HR2.out M (by have := HM.out; omega) (by have := HL2.out; omega))
        clear HR2
        go_wp2_with (go_at_call 112; refine HN2.out.mono ?_; rintro e w3 ⟨v3, rfl, hr, hb⟩; obtain ⟨A5, k5, rfl, hC5⟩ := hr; have HR3 := Lib.hid (show BC w3 _ _ from ⟨A5, k5, rfl, hC5⟩); have HB3 := Lib.hid (HB2.out.trans (hb.mono HB2.out.size)); have hk3 : TokAt w3 wr.heap.size ⟨3, (M : Int), n, m⟩ := (hb.block _ HK2.out.lt).trans HK2.out; have f0 := hk3.c0; have f1 := hk3.c1; clear hb hk3 hC5)
        go_roundg (l.length - (i + 1))
        case measure => omega
        case rel => exact ⟨i + 1, by go_num, by omega, rfl, Lib.hid (by rw [HYZ.out, if_neg (by decide), if_pos (by simp), Int.toNat_natCast, ← List.length_append]; exact HR3.out), HB3⟩
    · obtain rfl : i = l.length := by omega
      rw [List.take_length] at HR
      obtain ⟨A3, c3, rfl, _⟩ := HR.out
      go_wp2
      go_ret
      exact ⟨_, rfl, HR.out, HB.out⟩

end Go.Proofs.Ytmbnjgnmblgjoaa.Man
end

-- RefMath
section
/- What the reference's checks of tokens, steps, entries come to: closed forms of the printed functions. Plain: no program's run. -/


namespace Go.Proofs.Ytmbnjgnmblgjoaa.Man
open Go.RowKit Go.Proofs.YtmbnjgnmblgjoaaW.PrintWords Go.Proofs.YtmbnjgnmblgjoaaW.PrintLast Go.Proofs.YtmbnjgnmblgjoaaW.PrintMore
set_option linter.unusedVariables false
set_option linter.unusedSimpArgs false

theorem rright_f (x : K.S111) (k : Nat) (hk : 1 ≤ k) : K.emenderref04_Right.f k x.f0 x.f1 x.f2 x.f3 = some (rightB x) := by
  obtain ⟨k, rfl⟩ : ∃ m, k = m + 1 := ⟨k - 1, by omega⟩
  obtain ⟨a, t, n, m⟩ := x
  unfold K.emenderref04_Right.f rightB
  simp only
  by_cases h0 : a = 0
  · subst h0
    rw [if_pos rfl]
    by_cases c0 : t = 0
    · rw [if_pos c0]
      have hp : K.emenderref04_Point.f n = some (decide (0 ≤ n ∧ n ≤ 1114111 ∧ n / 2048 ≠ 27)) := by
        unfold K.emenderref04_Point.f
        by_cases q0 : n ≥ 0
        · rw [if_pos q0]
          by_cases q1 : n ≤ 1114111
          · rw [if_pos q1]
            by_cases q2 : n < 55296
            · rw [if_pos q2]; congr 1; symm; rw [decide_eq_true_eq]; omega
            · rw [if_neg q2]; congr 1; rw [decide_eq_decide]; omega
          · rw [if_neg q1]; congr 1; symm; rw [decide_eq_false_iff_not]; omega
        · rw [if_neg q0]; congr 1; symm; rw [decide_eq_false_iff_not]; omega
      have hm : K.emenderref03_Right.f m = some (decide (0 ≤ m ∧ m ≤ 4)) := by
        unfold K.emenderref03_Right.f
        by_cases q0 : m ≥ 0
        · rw [if_pos q0]; congr 1; rw [decide_eq_decide]; omega
        · rw [if_neg q0]; congr 1; symm; rw [decide_eq_false_iff_not]; omega
      rw [hp, hm]
      simp only [Option.bind_some]
      by_cases q : 0 ≤ n ∧ n ≤ 1114111 ∧ n / 2048 ≠ 27
      · rw [if_pos (decide_eq_true q)]; congr 1; rw [Bool.eq_iff_iff]; simp only [decide_eq_true_eq]
        constructor
        · intro h; exact .inl ⟨trivial, c0, q.1, q.2.1, q.2.2, h.1, h.2⟩
        · rintro (h | h | h) <;> omega
      · rw [if_neg (by simpa using q)]; congr 1; symm; rw [decide_eq_false_iff_not]
        rintro (h | h | h)
        · exact q ⟨h.2.2.1, h.2.2.2.1, h.2.2.2.2.1⟩
        · omega
        · omega
    · rw [if_neg c0]; congr 1; symm; rw [decide_eq_false_iff_not]; omega
  · rw [if_neg h0]
    have go : K.emenderref04_Right.j0 (k + 1) a (decide (a = 1 ∨ a = 3)) a t n m = some (decide ((a = 0 ∧ t = 0 ∧ 0 ≤ n ∧ n ≤ 1114111 ∧ n / 2048 ≠ 27 ∧ 0 ≤ m ∧ m ≤ 4) ∨ (a = 2 ∧ t = 0 ∧ n = 0 ∧ m = 0) ∨ ((a = 1 ∨ a = 3) ∧ 0 < t ∧ t < 16 ∧ 0 ≤ n ∧ n < 16 ∧ m = 0))) := by
      rw [K.emenderref04_Right.j0]
      by_cases q : a = 1 ∨ a = 3
      · rw [if_pos (decide_eq_true q)]
        by_cases c1 : t ≥ 1
        · rw [if_pos c1]
          by_cases c2 : t < 16
          · rw [if_pos c2]
            by_cases c3 : n ≥ 0
            · rw [if_pos c3]
              by_cases c4 : n ≤ 15
              · rw [if_pos c4]; congr 1; rw [Bool.eq_iff_iff]; simp only [beq_iff_eq, decide_eq_true_eq]; omega
              · rw [if_neg c4]; congr 1; symm; rw [decide_eq_false_iff_not]; omega
            · rw [if_neg c3]; congr 1; symm; rw [decide_eq_false_iff_not]; omega
          · rw [if_neg c2]; congr 1; symm; rw [decide_eq_false_iff_not]; omega
        · rw [if_neg c1]; congr 1; symm; rw [decide_eq_false_iff_not]; omega
      · rw [if_neg (by simpa using q)]
        by_cases c2 : a = 2
        · rw [if_pos c2]
          by_cases c3 : t = 0
          · rw [if_pos c3]
            by_cases c4 : n = 0
            · rw [if_pos c4]; congr 1; rw [Bool.eq_iff_iff]; simp only [beq_iff_eq, decide_eq_true_eq]; omega
            · rw [if_neg c4]; congr 1; symm; rw [decide_eq_false_iff_not]; omega
          · rw [if_neg c3]; congr 1; symm; rw [decide_eq_false_iff_not]; omega
        · rw [if_neg c2]; congr 1; symm; rw [decide_eq_false_iff_not]; omega
    by_cases h1 : a = 1
    · rw [if_pos h1]
      have e : (a == 1) = decide (a = 1 ∨ a = 3) := by rw [Bool.eq_iff_iff]; simp only [beq_iff_eq, decide_eq_true_eq]; omega
      rw [e]; exact go
    · rw [if_neg h1]
      have e : (a == 3) = decide (a = 1 ∨ a = 3) := by rw [Bool.eq_iff_iff]; simp only [beq_iff_eq, decide_eq_true_eq]; omega
      rw [e]; exact go

theorem rstep_l0 (x : K.S24) (hl : x.f6.length ≤ 2048) : ∀ (d j k : Nat) (b : Bool), x.f6.length = j + d → d + 1 < k → K.emenderref09_Check.l0 k b (j : Int) x.f0 x.f1 x.f2 x.f3 x.f4 x.f5 x.f6 x.f7 = some (if b && (x.f6.drop j).all rightB then 0 else 1) := by
  intro d
  induction d with
  | zero =>
    intro j k b h hk
    obtain ⟨k, rfl⟩ : ∃ m, k = m + 1 := ⟨k - 1, by omega⟩
    rw [K.emenderref09_Check.l0, if_neg (by omega), List.drop_of_length_le (by omega)]
    cases b <;> rfl
  | succ d ih =>
    intro j k b h hk
    obtain ⟨k, rfl⟩ : ∃ m, k = m + 1 := ⟨k - 1, by omega⟩
    have e : x.f6.drop j = x.f6[j] :: x.f6.drop (j + 1) := by rw [List.drop_eq_getElem_cons]
    rw [K.emenderref09_Check.l0, if_pos (by omega), if_pos (show (0 : Int) ≤ (j : Int) by omega), rd_nat x.f6 j (by omega), rright_f _ k (by omega), Option.bind_some, wrap_succ j (by omega), ih (j + 1) k _ (by omega) (by omega), ih (j + 1) k _ (by omega) (by omega), e, List.all_cons]
    cases b
    · simp
    · simp only [if_true, Bool.true_and]
theorem rstep_j2 (k : Nat) (b : Bool) (x : K.S24) (hl : x.f6.length ≤ 2048) (hk : 2052 ≤ k) : K.emenderref09_Check.j2 k b x.f0 x.f1 x.f2 x.f3 x.f4 x.f5 x.f6 x.f7 = some (if b && x.f6.all rightB then 0 else 1) := by
  obtain ⟨k, rfl⟩ : ∃ m, k = m + 1 := ⟨k - 1, by omega⟩
  rw [K.emenderref09_Check.j2]
  have := rstep_l0 x hl x.f6.length 0 k b (by omega) (by omega)
  rw [List.drop_zero] at this
  exact this
def kindOk2 (g : Bool) (x : K.S24) : Bool :=
  if x.f0 = 1 then decide (x.f1 ≤ x.f3 ∧ x.f3 < x.f4 ∧ x.f4 ≤ x.f2 ∧ 0 ≤ x.f5 ∧ x.f5 ≤ (x.f6.length : Int) ∧ x.f7 = 0)
  else if x.f0 = 0 then x.f7 == 0 && g
  else if x.f0 = 2 ∨ x.f0 = 3 then decide (x.f1 < x.f2) && (oneMark x.f7 && ((x.f6.length : Int) == 0 && g)) else false
theorem rstep_j1 (k : Nat) (g : Bool) (x : K.S24) (hl : x.f6.length ≤ 2048) (hk : 2053 ≤ k) : K.emenderref09_Check.j1 k g x.f0 x.f1 x.f2 x.f3 x.f4 x.f5 x.f6 x.f7 = some (if kindOk2 g x && x.f6.all rightB then 0 else 1) := by
  obtain ⟨k, rfl⟩ : ∃ m, k = m + 1 := ⟨k - 1, by omega⟩
  have hj := fun b => rstep_j2 k b x hl (by omega)
  obtain ⟨a0, a1, a2, a3, a4, a5, l, a7⟩ := x
  simp only at hl hj ⊢
  rw [K.emenderref09_Check.j1]
  simp only [hj]
  unfold kindOk2
  simp only
  by_cases h0 : a0 = 0
  · rw [if_pos h0, if_neg (show ¬ a0 = 1 by omega), if_pos h0]
    cases g <;> simp
  · rw [if_neg h0, if_neg h0]
    by_cases h1 : a0 = 1
    · rw [if_pos h1, if_pos h1]
      simp only [dec_and]
      by_cases q1 : a1 ≤ a3
      · by_cases q2 : a3 < a4
        · by_cases q3 : a4 ≤ a2
          · by_cases q4 : a5 ≥ 0
            · by_cases q5 : a5 ≤ (l.length : Int)
              · simp [q1, q2, q3, q4, q5]
              · simp [q1, q2, q3, q4, q5]
            · simp [q1, q2, q3, q4]
          · simp [q1, q2, q3]
        · simp [q1, q2]
      · simp [q1]
    · rw [if_neg h1, if_neg h1]
      have two : (if g = true then (if a1 < a2 then (if (l.length : Int) = 0 then (if a7 = 1 then some (if (true && l.all rightB) = true then (0 : Int) else 1) else (if a7 = 2 then some (if (true && l.all rightB) = true then 0 else 1) else some (if (a7 == 4 && l.all rightB) = true then 0 else 1))) else some (if (false && l.all rightB) = true then 0 else 1)) else some (if (false && l.all rightB) = true then 0 else 1)) else some (if (false && l.all rightB) = true then 0 else 1)) =
          some (if (decide (a1 < a2) && (oneMark a7 && ((l.length : Int) == 0 && g)) && l.all rightB) = true then 0 else 1) := by
        cases g
        · simp
        · by_cases q1 : a1 < a2
          · by_cases q2 : (l.length : Int) = 0
            · by_cases q3 : a7 = 1
              · subst q3; simp [q1, q2, oneMark]
              · by_cases q4 : a7 = 2
                · subst q4; simp [q1, q2, oneMark]
                · simp [q1, q2, q3, q4, oneMark]
            · rw [if_pos rfl, if_pos q1, if_neg q2, (show ((l.length : Int) == 0) = false by simpa using q2)]; simp
          · simp [q1]
      by_cases h2 : a0 = 2
      · rw [if_pos h2, if_pos (show a0 = 2 ∨ a0 = 3 from .inl h2)]; exact two
      · rw [if_neg h2]
        by_cases h3 : a0 = 3
        · rw [if_pos h3, if_pos (show a0 = 2 ∨ a0 = 3 from .inr h3)]; exact two
        · rw [if_neg h3, if_neg (show ¬ (a0 = 2 ∨ a0 = 3) by omega)]
theorem rstep_f (x : K.S24) (k : Nat) (hk : 2060 ≤ k) : K.emenderref09_Check.f k x.f0 x.f1 x.f2 x.f3 x.f4 x.f5 x.f6 x.f7 = some (stepE x) := by
  obtain ⟨k, rfl⟩ : ∃ m, k = m + 1 := ⟨k - 1, by omega⟩
  unfold K.emenderref09_Check.f stepE stepOk
  by_cases h : 2048 < x.f6.length
  · rw [if_pos (by omega), if_pos h]
  · rw [if_neg (by omega), if_neg h]
    have hj := fun g => rstep_j1 k g x (by omega) (by omega)
    have e : kindOk2 (gaps0 x) x = kindOk x := rfl
    have j0t : K.emenderref09_Check.j0 (k + 1) true x.f0 x.f1 x.f2 x.f3 x.f4 x.f5 x.f6 x.f7 = some 1 := by rw [K.emenderref09_Check.j0, if_pos rfl]
    have j0f : K.emenderref09_Check.j0 (k + 1) false x.f0 x.f1 x.f2 x.f3 x.f4 x.f5 x.f6 x.f7 = some (if kindOk x && x.f6.all rightB then 0 else 1) := by
      rw [K.emenderref09_Check.j0, if_neg (by decide)]
      simp only [hj]
      rw [← e]
      unfold gaps0
      by_cases a : x.f3 = 0
      · by_cases b : x.f4 = 0
        · rw [if_pos a, if_pos b]; simp [a, b]
        · rw [if_pos a, if_neg b, show (x.f4 == 0) = false by simpa using b]; simp
      · rw [if_neg a, show (x.f3 == 0) = false by simpa using a]; simp
    by_cases a : x.f1 < 0
    · rw [if_pos a, j0t, decide_eq_false (by omega)]; rfl
    · rw [if_neg a]
      by_cases b : x.f1 > x.f2
      · rw [if_pos b, j0t, decide_eq_false (by omega)]; rfl
      · rw [if_neg b]
        by_cases c : x.f2 > 2048
        · rw [decide_eq_true c, j0t, decide_eq_false (by omega)]; rfl
        · rw [decide_eq_false c, j0f, decide_eq_true (show 0 ≤ x.f1 ∧ x.f1 ≤ x.f2 ∧ x.f2 ≤ 2048 by omega), Bool.true_and]
theorem rentryE_f (x : K.S26) (k : Nat) (hk : 2060 ≤ k) : K.emenderref16_check.f k x.f0 x.f1 x.f2.f0 x.f2.f1 x.f2.f2 x.f2.f3 x.f2.f4 x.f2.f5 x.f2.f6 x.f2.f7 = some (entryE x) := by
  unfold K.emenderref16_check.f entryE
  by_cases a : x.f0 < 0
  · rw [if_pos a, if_pos (by omega)]
  rw [if_neg a]
  by_cases b : x.f0 ≥ 4
  · rw [if_pos b, if_pos (by omega)]
  rw [if_neg b]
  by_cases c : x.f1 < 0
  · rw [if_pos c, if_pos (by omega)]
  rw [if_neg c]
  by_cases d : x.f1 > 2147483647
  · rw [if_pos d, if_pos (by omega)]
  rw [if_neg d, if_neg (by omega), rstep_f x.f2 k hk, Option.bind_some]
end Go.Proofs.Ytmbnjgnmblgjoaa.Man
end

-- RefPuts
section
/- The reference's PutDoc, PutEntry, PutMsg: what they come to. -/


namespace Go.Proofs.Ytmbnjgnmblgjoaa.Man
open Go.RowKit Go.Proofs.YtmbnjgnmblgjoaaW.PrintWords Go.Proofs.YtmbnjgnmblgjoaaW.PrintLast Go.Proofs.YtmbnjgnmblgjoaaW.PrintMore
set_option linter.unusedVariables false
set_option linter.unusedSimpArgs false
set_option maxRecDepth 100000

set_option maxHeartbeats 8000000 in
theorem rputDoc_is (A : Option Addr) (c : Nat) (l : List K.S111) (w : World) (hr : Kd.C K.k111 w A l.length l) (hc : l.length ≤ c) :
    Calls Try.prog 50 #[.slice A l.length c] w fun e w' => ∃ v, e = .returned (.tuple #[v, .int .i64 (docE l)]) ∧ BC w' v (putDocF l).1 ∧ Below w.heap.size w w' := by
  unfold putDocF
  simp only
  have hD : docE l = if 2048 < l.length then 2 else if l.all rightB then 0 else 1 := rfl
  have hz := @docE_zero l
  obtain ⟨er, her⟩ : ∃ er, docE l = er := ⟨_, rfl⟩
  rw [her] at hD hz ⊢
  have HC := Lib.hid hr
  clear hr her
  by_cases hbig : 2048 < l.length
  · rw [if_pos hbig] at hD
    subst hD
    rw [if_neg (by decide)]
    go_enter Try.func50, Try.ntmps50
    go_wp2
    go_ret2
    exact ⟨_, rfl, BC.nil _, Below.refl _ _⟩
  rw [if_neg hbig] at hD
  have HD := Lib.hid hD
  have HZ := Lib.hid hz
  obtain ⟨R, hR⟩ : ∃ R, (if er = 0 then docB l else []) = R := ⟨_, rfl⟩
  rw [hR]
  have HR := Lib.hid hR
  clear hD hz hR
  go_enter Try.func50, Try.ntmps50
  go_wp2
  go_loopg [4] l.length (fun g s4 wr => ∃ i : Nat, s4 = .int .i64 i ∧ i ≤ l.length ∧ g = l.length - i ∧ Hid (er = if (l.drop i).all rightB then 0 else 1) ∧ Hid (Below w.heap.size w wr))
  case atStart => exact ⟨0, rfl, Nat.zero_le _, rfl, Lib.hid (by rw [List.drop_zero]; exact HD.out), Lib.hid (Below.refl _ _)⟩
  case round =>
    obtain ⟨i, rfl, hi, hg, HE, HB⟩ := hrel
    by_cases hlt : i < l.length
    · obtain ⟨ad, ea, a0, a1, a2, a3⟩ := K.at_T111 (Kd.C_below HC.out HB.out) (i : Int) (by omega) (by omega)
      subst ea
      rw [rd_nat l i hlt, Int.toNat_natCast] at a0 a1 a2 a3
      have hdr : l.drop i = l[i] :: l.drop (i + 1) := List.drop_eq_getElem_cons hlt
      have hE := HE.out
      rw [hdr, List.all_cons] at hE
      generalize l[i] = x at hE a0 a1 a2 a3
      have HO := Lib.hid (K.emenderref04_Right.calls 1 x.f0 x.f1 x.f2 x.f3 (rightB x) wr (rright_f x 1 (by decide)))
      cases hrx : rightB x with
      | true =>
        rw [hrx] at HO
        have HN : Hid (er = if (l.drop (i + 1)).all rightB then 0 else 1) := Lib.hid (by rw [hE, hrx, Bool.true_and])
        clear hdr hE HE hrx
        go_wp2_with (go_at_call 105; refine HO.out.mono ?_; rintro e w2 ⟨rfl, hb⟩; have HB2 := Lib.hid (HB.out.trans (hb.mono HB.out.size)); clear hb)
        go_roundg (l.length - (i + 1))
        case measure => omega
        case rel => exact ⟨i + 1, by go_num, by omega, rfl, HN, HB2⟩
      | false =>
        rw [hrx] at HO
        obtain rfl : er = 1 := by rw [hE, hrx]; rfl
        have HRR : Hid (R = []) := Lib.hid (by rw [← HR.out, if_neg (by decide)])
        clear hdr hE HE hrx
        go_wp2_with (go_at_call 105; refine HO.out.mono ?_; rintro e w2 ⟨rfl, hb⟩; have HB2 := Lib.hid (HB.out.trans (hb.mono HB.out.size)); clear hb)
        go_ret2
        exact ⟨_, rfl, by rw [HRR.out]; exact BC.nil _, HB2.out⟩
    · obtain rfl : i = l.length := by omega
      obtain rfl : er = 0 := by have := HE.out; rw [List.drop_length] at this; simpa using this
      obtain ⟨hl, hok⟩ := HZ.out rfl
      have HRR : Hid (R = docB l) := Lib.hid (by rw [← HR.out, if_pos rfl])
      have HO := Lib.hid (rdocw_is (BC.nil wr) A c l (Kd.C_below HC.out HB.out) hl (fun x hx => right_tok (hok x hx)) (by simp))
      clear hok HE
      go_wp2_with (go_at_call 106; refine HO.out.mono ?_; rintro e w2 ⟨v2, rfl, hr, hb⟩; rw [List.nil_append] at hr; have HR2 := Lib.hid hr; have HB2 := Lib.hid (HB.out.trans (hb.mono HB.out.size)); clear hr hb)
      go_ret2
      exact ⟨_, rfl, by rw [HRR.out]; exact HR2.out, HB2.out⟩

theorem rcheck_is (x : K.S26) (A : Option Addr) (c : Nat) (w : World) (hr : Kd.C K.k111 w A x.f2.f6.length x.f2.f6) (hc : x.f2.f6.length ≤ c) :
    Calls Try.prog 107 #[entV x A c] w fun e w' => e = .returned (.int .i64 (entryE x)) ∧ Below w.heap.size w w' :=
  K.emenderref16_check.calls 2060 _ _ _ _ _ _ _ _ A c _ _ _ w hr hc (rentryE_f x 2060 (by decide))

end Go.Proofs.Ytmbnjgnmblgjoaa.Man
end

-- RefMsg
section
/- The reference's message, PutMsg: what they come to. Printed by wip/tools/gen_refmsg.py. -/

namespace Go.Proofs.Ytmbnjgnmblgjoaa.Man
open Go.RowKit Go.Proofs.YtmbnjgnmblgjoaaW.PrintWords Go.Proofs.YtmbnjgnmblgjoaaW.PrintLast Go.Proofs.YtmbnjgnmblgjoaaW.PrintMore
set_option linter.unusedVariables false
set_option linter.unusedSimpArgs false
set_option maxRecDepth 100000

set_option maxHeartbeats 8000000 in
theorem rmessage_is (m : MsgL) (A : Option Addr) (c : Nat) (w : World) (hr : Kd.C K.k26 w A m.l.length m.l) (hc : m.l.length ≤ c) :
    Calls Try.prog 111 #[msgV m A c] w fun e w' => e = .returned (.int .i64 (msgE m)) ∧ Below w.heap.size w w' := by
  obtain ⟨k, who, ver, l⟩ := m
  unfold msgV
  simp only at hr hc ⊢
  have HC := Lib.hid hr
  clear hr
  obtain ⟨E, hE⟩ : ∃ E, msgE ⟨k, who, ver, l⟩ = E := ⟨_, rfl⟩
  rw [hE]
  unfold msgE msgBad at hE
  simp only at hE
  obtain ⟨w1, hw1⟩ : ∃ w1, w1 = w.alloc (.cells #[.int .i64 k, .int .i64 who, .int .i64 ver, .slice A l.length c] 71) := ⟨_, rfl⟩
  have hbe : Below w.heap.size w w1 := by rw [hw1]; exact (Below.refl _ _).alloc (Nat.le_refl _) _
  have hM1 : MsgAt w1 w.heap.size k who ver A l.length c := by rw [hw1]; exact World.alloc_heap_new w _
  rw [hw1] at hbe hM1
  have HBE := Lib.hid hbe
  have HM1 := Lib.hid hM1
  clear hbe hM1 hw1

  by_cases h0 : k < 0
  · have t0 : decide (k < 0) = true := decide_eq_true h0
    rw [if_pos (by omega)] at hE
    subst hE
    clear h0
    go_enter Try.func111, Try.ntmps111
    go_wp2
    refine bodyPost_ret (results_tmp rfl _ _ _) rfl ?_
    exact ⟨rfl, HBE.out⟩
  have t0 : decide (k < 0) = false := decide_eq_false h0
  by_cases h1 : 2 < k
  · have t1 : decide (2 < k) = true := decide_eq_true h1
    rw [if_pos (by omega)] at hE
    subst hE
    clear h0 h1
    go_enter Try.func111, Try.ntmps111
    go_wp2
    refine bodyPost_ret (results_tmp rfl _ _ _) rfl ?_
    exact ⟨rfl, HBE.out⟩
  have t1 : decide (2 < k) = false := decide_eq_false h1
  by_cases h2 : who < 0
  · have t2 : decide (who < 0) = true := decide_eq_true h2
    rw [if_pos (by omega)] at hE
    subst hE
    clear h0 h1 h2
    go_enter Try.func111, Try.ntmps111
    go_wp2
    refine bodyPost_ret (results_tmp rfl _ _ _) rfl ?_
    exact ⟨rfl, HBE.out⟩
  have t2 : decide (who < 0) = false := decide_eq_false h2
  by_cases h3 : 4 ≤ who
  · have t3 : decide (4 ≤ who) = true := decide_eq_true h3
    rw [if_pos (by omega)] at hE
    subst hE
    clear h0 h1 h2 h3
    go_enter Try.func111, Try.ntmps111
    go_wp2
    refine bodyPost_ret (results_tmp rfl _ _ _) rfl ?_
    exact ⟨rfl, HBE.out⟩
  have t3 : decide (4 ≤ who) = false := decide_eq_false h3
  by_cases h4 : ver < 0
  · have t4 : decide (ver < 0) = true := decide_eq_true h4
    rw [if_pos (by omega)] at hE
    subst hE
    clear h0 h1 h2 h3 h4
    go_enter Try.func111, Try.ntmps111
    go_wp2
    refine bodyPost_ret (results_tmp rfl _ _ _) rfl ?_
    exact ⟨rfl, HBE.out⟩
  have t4 : decide (ver < 0) = false := decide_eq_false h4
  by_cases h5 : 1024 < ver
  · have t5 : decide (1024 < ver) = true := decide_eq_true h5
    rw [if_pos (by omega)] at hE
    subst hE
    clear h0 h1 h2 h3 h4 h5
    go_enter Try.func111, Try.ntmps111
    go_wp2
    refine bodyPost_ret (results_tmp rfl _ _ _) rfl ?_
    exact ⟨rfl, HBE.out⟩
  have t5 : decide (1024 < ver) = false := decide_eq_false h5
  rw [if_neg (by omega)] at hE
  clear h0 h1 h2 h3 h4 h5
  by_cases h6 : 1024 < l.length
  · rw [if_pos h6] at hE
    subst hE
    go_enter Try.func111, Try.ntmps111
    go_wp2
    refine bodyPost_ret (results_tmp rfl _ _ _) rfl ?_
    exact ⟨rfl, HBE.out⟩
  rw [if_neg h6] at hE
  have HE := Lib.hid hE
  clear hE
  go_enter Try.func111, Try.ntmps111
  go_wp2
  go_loopg [3] l.length (fun g s3 wr => ∃ i : Nat, s3 = .int .i64 i ∧ i ≤ l.length ∧ g = l.length - i ∧ Hid (firstBad (l.drop i) = E) ∧ Hid (Below w.heap.size w wr) ∧ Hid (MsgAt wr w.heap.size k who ver A l.length c))
  case atStart => exact ⟨0, rfl, Nat.zero_le _, rfl, Lib.hid (by rw [List.drop_zero]; exact HE.out), HBE, HM1⟩
  case round =>
    clear HE HBE HM1 t0 t1 t2 t3 t4 t5
    obtain ⟨i, rfl, hi, hg, HE, HB, HM⟩ := hrel
    have q3 := HM.out.c.2.2.2
    by_cases hlt : i < l.length
    · have hCi := Kd.C_below HC.out HB.out
      obtain ⟨ad, A8, c8, ea, a0, a1, a2, a3, a4, a5, a6, a7, a8, a9, l8, g8⟩ := K.at_T26 hCi (i : Int) (by omega) (by omega)
      subst ea
      have hrd : K.rd_T26 l (i : Int) = l[i] := by unfold K.rd_T26; rw [Int.toNat_natCast, List.getD_eq_getElem?_getD, List.getElem?_eq_getElem hlt]; rfl
      have hdr : l.drop i = l[i] :: l.drop (i + 1) := List.drop_eq_getElem_cons hlt
      have hE := HE.out
      rw [hdr, firstBad] at hE
      rw [hrd] at a0 a1 a2 a3 a4 a5 a6 a7 a8 a9 l8 g8
      rw [Int.toNat_natCast] at a0 a1 a2 a3 a4 a5 a6 a7 a8 a9
      generalize l[i] = x at hE a0 a1 a2 a3 a4 a5 a6 a7 a8 a9 l8 g8
      clear hrd hdr HE hCi
      have HD := Lib.hid (rcheck_is x A8 c8 wr g8 l8)
      have HE := Lib.hid hE
      clear g8 hE
      by_cases h0 : entryE x = 0
      · rw [h0] at HD
        have HN : Hid (firstBad (l.drop (i + 1)) = E) := Lib.hid (by have := HE.out; rwa [if_pos h0] at this)
        clear HE h0
        go_wp2_with (go_at_call 107; refine HD.out.mono ?_; rintro e w2 ⟨rfl, hb⟩; have HB2 := Lib.hid (HB.out.trans (hb.mono HB.out.size)); have HM2 : Hid (MsgAt w2 w.heap.size k who ver (some ad) l.length c) := Lib.hid ((hb.block _ HM.out.lt).trans HM.out); clear hb)
        go_roundg (l.length - (i + 1))
        case measure => omega
        case rel => exact ⟨i + 1, by go_num, by omega, rfl, HN, HB2, HM2⟩
      · have HN : Hid (entryE x = E) := Lib.hid (by have := HE.out; rwa [if_neg h0] at this)
        have hne : (entryE x != 0) = true := by simpa using h0
        rw [HN.out] at HD hne
        clear HE h0
        go_wp2_with (go_at_call 107; refine HD.out.mono ?_; rintro e w2 ⟨rfl, hb⟩; have HB2 := Lib.hid (HB.out.trans (hb.mono HB.out.size)); clear hb)
        go_ret
        exact ⟨rfl, HB2.out⟩
    · obtain rfl : i = l.length := by omega
      have hE := HE.out
      rw [List.drop_length] at hE
      obtain rfl : E = 0 := hE.symm
      clear hE
      go_wp2
      go_ret
      exact ⟨rfl, HB.out⟩

end Go.Proofs.Ytmbnjgnmblgjoaa.Man
end

-- RefRead
section
/- The reference's reader: a number. Printed by wip/tools/gen_refread.py. -/


namespace Go.Proofs.Ytmbnjgnmblgjoaa.Man
open Go.RowKit Go.Proofs.YtmbnjgnmblgjoaaW.PrintWords Go.Proofs.YtmbnjgnmblgjoaaW.PrintLast Go.Proofs.YtmbnjgnmblgjoaaW.PrintMore
set_option linter.unusedVariables false
set_option linter.unusedSimpArgs false
set_option maxRecDepth 100000

/-- What is left to read, and what has gone wrong. -/
abbrev Left := List Int × Int
def nnum (top : Int) (s : Left) : Int × Left := if s.2 ≠ 0 then (0, s) else match rnum top s.1 with | .ok (n, r) => (n, (r, 0)) | .error f => (0, (s.1, f))
/-- The reference's reader. -/
def RdAt (w : World) (P : Nat) (A : Option Addr) (c n : Nat) (p : Nat) (e : Int) : Prop := w.heap[P]? = some (.cells #[.slice A n c, .int .i64 (p : Int), .int .i64 e] 180 (0, 0))
section
variable {w w1 : World} {P c n p : Nat} {A : Option Addr} {e : Int}
theorem RdAt.c0 (k : RdAt w P A c n p e) : w.cell? ⟨P, 0, none⟩ = some (.slice A n c) := by simp [World.cell?, show w.heap[P]? = _ from k]
theorem RdAt.c1 (k : RdAt w P A c n p e) : w.cell? ⟨P, 1, none⟩ = some (.int .i64 (p : Int)) := by simp [World.cell?, show w.heap[P]? = _ from k]
theorem RdAt.c2 (k : RdAt w P A c n p e) : w.cell? ⟨P, 2, none⟩ = some (.int .i64 e) := by simp [World.cell?, show w.heap[P]? = _ from k]
theorem RdAt.f (k : RdAt w P A c n p e) (i : Nat) : w.frozen? ⟨P, i, none⟩ = false := by simp [World.frozen?, show w.heap[P]? = _ from k]
theorem RdAt.lt (k : RdAt w P A c n p e) : P < w.heap.size := (Array.getElem?_eq_some_iff.1 k).1
theorem RdAt.put (k : RdAt w P A c n p e) (q : Nat) : RdAt (w.setCell ⟨P, 1, none⟩ (.int .i64 (q : Int))) P A c n q e := by
  unfold RdAt World.setCell
  simp [Array.getElem?_modify, show w.heap[P]? = _ from k]
theorem RdAt.err (k : RdAt w P A c n p e) (f : Int) : RdAt (w.setCell ⟨P, 2, none⟩ (.int .i64 f)) P A c n p f := by
  unfold RdAt World.setCell
  simp [Array.getElem?_modify, show w.heap[P]? = _ from k]
theorem RdAt.below {m : Nat} (k : RdAt w P A c n p e) (h : Below m w w1) (hm : P < m) : RdAt w1 P A c n p e := (h.block P hm).trans k
end
/-- The reader, by what is left. -/
def LeftAt (w : World) (P : Nat) (A : Option Addr) (c : Nat) (b : List Int) (s : Left) : Prop := ∃ q, q ≤ b.length ∧ s.1 = b.drop q ∧ RdAt w P A c b.length q s.2
theorem LeftAt.lt {w : World} {P c : Nat} {A : Option Addr} {b : List Int} {s : Left} (h : LeftAt w P A c b s) : P < w.heap.size := by obtain ⟨q, _, _, k⟩ := h; exact k.lt
theorem LeftAt.below {w w1 : World} {P c m : Nat} {A : Option Addr} {b : List Int} {s : Left} (h : LeftAt w P A c b s) (hb : Below m w w1) (hm : P < m) : LeftAt w1 P A c b s := by obtain ⟨q, h1, h2, k⟩ := h; exact ⟨q, h1, h2, k.below hb hm⟩
theorem LeftAt.c2 {w : World} {P c : Nat} {A : Option Addr} {b : List Int} {s : Left} (h : LeftAt w P A c b s) : w.cell? ⟨P, 2, none⟩ = some (.int .i64 s.2) := by obtain ⟨q, _, _, k⟩ := h; exact k.c2
theorem LeftAt.grown {w w1 : World} {P c : Nat} {A : Option Addr} {b : List Int} {s : Left} {r : Option Nat} (h : LeftAt w P A c b s) (hg : w.grownBy w1 r) (hr : some P ≠ r) : LeftAt w1 P A c b s := by obtain ⟨q, h1, h2, k⟩ := h; exact ⟨q, h1, h2, (hg.block _ k.lt hr).trans k⟩
def rnumR3.T : Bool × List (List Nat × List Nat) := (true, [([], []), ([0], [0]), ([1], [1]), ([2], [2]), ([], []), ([4], [4]), ([5], [5]), ([6], [6]), ([3, 7], [3, 7]), ([8], [8]), ([9], [9]), ([9], [9]), ([9], [9]), ([10, 8, 0, 1, 2, 3, 4, 5, 6, 7, 8, 9, 10], [10]), ([11, 13, 0, 1, 2, 3, 4, 5, 6, 7, 8, 9, 10, 11, 13], [11]), ([12, 14, 0, 1, 2, 3, 4, 5, 6, 7, 8, 9, 10, 11, 12, 13, 14], [12])])
def rnumR3.B : List Nat := [0, 1, 3, 7, 0, 16, 48, 112, 255, 511, 1023, 1023, 1023, 2047, 12287, 32767]
theorem rnumR3.tab : rtab .any (opsOf Try.f133 3) = rnumR3.T := by kernel_rfl
theorem rnumR3.bits : waitsOk rnumR3.T.2 rnumR3.B = true := by kernel_rfl

set_option maxHeartbeats 8000000 in
theorem nnum_is {w : World} {P c : Nat} {A : Option Addr} {b : List Int} {s : Left} (k : LeftAt w P A c b s) (hC : Kd.C (Kd.int .u8) w A b.length b) (hc : b.length ≤ c) (hB : areBytesN b = true) (hl : b.length ≤ 140737488351232) (top : Int) (ht0 : 0 ≤ top) (ht1 : top ≤ 2147483647) :
    Calls Try.prog 133 #[.pointer (some ⟨P, 0, none⟩), .int .i64 top] w fun e w' => e = .returned (.int .i64 (nnum top s).1) ∧ LeftAt w' P A c b (nnum top s).2 ∧ w.grownBy w' (some P) := by
  obtain ⟨p, hp, hs, hk⟩ := k
  obtain ⟨l, er⟩ := s
  simp only at hs hk
  obtain ⟨X, hX⟩ : ∃ X, nnum top (l, er) = X := ⟨_, rfl⟩
  rw [hX]
  unfold nnum at hX
  simp only at hX
  have k2 := hk.c2
  by_cases h0 : er ≠ 0
  · rw [if_pos h0] at hX
    subst hX
    have hne : (er != 0) = true := by simpa using h0
    have HK := Lib.hid hk
    clear hk hC
    go_enter Try.func133, Try.ntmps133
    go_wp2
    go_ret
    exact ⟨rfl, ⟨p, hp, hs, HK.out⟩, World.grownBy.refl _ _⟩
  obtain rfl : er = 0 := by omega
  rw [if_neg h0] at hX
  subst hs
  rw [rnum_getF hp] at hX
  have HG := Lib.hid (fun (W : World) (hb : Below w.heap.size w W) => rget_is A c b p W (Kd.C_below hC hb) hc hB hl)
  have hgr := getF_range b p hB
  have HQ := Lib.hid (fun h => getF_spot (p := p) hB h)
  obtain ⟨⟨n, nx, er⟩, hg⟩ : ∃ g, getF b p = g := ⟨_, rfl⟩
  rw [hg] at HG HQ hgr hX
  simp only at HG HQ hgr hX
  have HX := Lib.hid hX
  clear hX
  have hS : w.cell? ⟨P, 0, none⟩ = some (.slice A b.length c) ∧ w.cell? ⟨P, 1, none⟩ = some (.int .i64 (p : Int)) := ⟨hk.c0, hk.c1⟩
  have HK := Lib.hid hk
  have kf := fun i => hk.f i
  clear hg hC hk
  go_enter Try.func133, Try.ntmps133
  go_upto_region 3 with (fail)
  refine start_ (n := 16) (S := fun w' => w'.cell? ⟨P, 0, none⟩ = some (.slice A b.length c) ∧ w'.cell? ⟨P, 1, none⟩ = some (.int .i64 (p : Int))) (ds := []) #[false, false, false, false, false, false, false, false, false, false, false, false, false, false, false, false] (by kernel_rfl) rfl rfl hS (fun hHeld => ?_); refine with_tabW rnumR3.tab rnumR3.bits (fun HT_ HW_ => ?_)
  refine pure_ (i := 0) (N := (some 14)) (v := ?_) (a' := ?_) #[true, false, false, false, false, false, false, false, false, false, false, false, false, false, false, false] rfl rfl (any_of HT_.out (by kernel_rfl)) (fun _ _ _ h => h) (Or.inl ⟨by rfl, ?_⟩) ?_ ?_
  rotate_left
  · intro w'
    go_simp
    with_reducible rfl
  rotate_left
  · simp only [Act.put, List.setIfInBounds_toArray, List.set_cons_zero, List.set_cons_succ, i64_w, i32_w]
    rfl
  refine pure_ (i := 1) (N := (some 15)) (v := ?_) (a' := ?_) #[true, true, false, false, false, false, false, false, false, false, false, false, false, false, false, false] rfl rfl (any_of HT_.out (by kernel_rfl)) (fun _ _ _ h => h) (Or.inl ⟨by rfl, ?_⟩) ?_ ?_
  rotate_left
  · intro w'
    go_simp
    with_reducible rfl
  rotate_left
  · simp only [Act.put, List.setIfInBounds_toArray, List.set_cons_zero, List.set_cons_succ, i64_w, i32_w]
    rfl
  refine pure_ (i := 2) (N := (some 16)) (v := ?_) (a' := ?_) #[true, true, true, false, false, false, false, false, false, false, false, false, false, false, false, false] rfl rfl (any_of HT_.out (by kernel_rfl)) (fun _ _ _ h => h) (Or.inl ⟨by rfl, ?_⟩) ?_ ?_
  rotate_left
  · intro w'
    go_simp
    with_reducible rfl
  rotate_left
  · simp only [Act.put, List.setIfInBounds_toArray, List.set_cons_zero, List.set_cons_succ, i64_w, i32_w]
    rfl
  refine pure_ (i := 4) (N := (some 18)) (v := ?_) (a' := ?_) #[true, true, true, false, true, false, false, false, false, false, false, false, false, false, false, false] rfl rfl (any_of HT_.out (by kernel_rfl)) (fun _ _ _ h => h) (Or.inl ⟨by rfl, ?_⟩) ?_ ?_
  rotate_left
  · intro w'
    go_simp
    with_reducible rfl
  rotate_left
  · simp only [Act.put, List.setIfInBounds_toArray, List.set_cons_zero, List.set_cons_succ, i64_w, i32_w]
    rfl
  refine pure_ (i := 5) (N := (some 19)) (v := ?_) (a' := ?_) #[true, true, true, false, true, true, false, false, false, false, false, false, false, false, false, false] rfl rfl (any_of HT_.out (by kernel_rfl)) (fun _ _ _ h => h) (Or.inl ⟨by rfl, ?_⟩) ?_ ?_
  rotate_left
  · intro w'
    go_simp
    with_reducible rfl
  rotate_left
  · simp only [Act.put, List.setIfInBounds_toArray, List.set_cons_zero, List.set_cons_succ, i64_w, i32_w]
    rfl
  refine pure_ (i := 6) (N := (some 20)) (v := ?_) (a' := ?_) #[true, true, true, false, true, true, true, false, false, false, false, false, false, false, false, false] rfl rfl (any_of HT_.out (by kernel_rfl)) (fun _ _ _ h => h) (Or.inl ⟨by rfl, ?_⟩) ?_ ?_
  rotate_left
  · intro w'
    go_simp
    with_reducible rfl
  rotate_left
  · simp only [Act.put, List.setIfInBounds_toArray, List.set_cons_zero, List.set_cons_succ, i64_w, i32_w]
    rfl
  refine take_ (i := 3) (N := (some 17)) (v := ?_) (a' := ?_) #[true, true, true, true, true, true, true, false, false, false, false, false, false, false, false, false] rfl rfl (take_ofW HT_.out HW_.out (by kernel_rfl)) (fun _ _ _ h => h) (Or.inl ⟨by rfl, ?_⟩) hHeld ?_ ?_
  rotate_left
  · rintro w' ⟨s0, s1⟩
    go_simp
    with_reducible rfl
  rotate_left
  · simp only [Act.put, List.setIfInBounds_toArray, List.set_cons_zero, List.set_cons_succ, i64_w, i32_w]
    rfl
  refine take_ (i := 7) (N := (some 21)) (v := ?_) (a' := ?_) #[true, true, true, true, true, true, true, true, false, false, false, false, false, false, false, false] rfl rfl (take_ofW HT_.out HW_.out (by kernel_rfl)) (fun _ _ _ h => h) (Or.inl ⟨by rfl, ?_⟩) hHeld ?_ ?_
  rotate_left
  · rintro w' ⟨s0, s1⟩
    go_simp
    with_reducible rfl
  rotate_left
  · simp only [Act.put, List.setIfInBounds_toArray, List.set_cons_zero, List.set_cons_succ, i64_w, i32_w]
    rfl
  refine one_ (i := 8) (N := (some 22)) #[true, true, true, true, true, true, true, true, true, false, false, false, false, false, false, false] rfl rfl (one_of HT_.out (by kernel_rfl)) (by decide) (fun K hK => ?_)
  refine goes_ Try.func156 (by kernel_rfl) rfl #[.slice A b.length c, .int .i64 (p : Int)] (by rfl) rfl rfl (by (try simp only [List.map_toArray, List.map_cons, List.map_nil]); first | done | rfl) ?_
  refine (HG.out _ (below_drew1 (Below.refl _ _))).mono ?_
  rintro e w3 ⟨rfl, m3, rfl⟩
  refine ⟨_, rfl, ?_⟩
  refine hK.out _ _ hS (fun hHeld => ?_)
  clear hK K
  refine norm_ (a' := ?_) ?_ ?_
  rotate_left
  · show Act.put _ (some 22) _ = _
    simp only [Act.put, List.setIfInBounds_toArray, List.set_cons_zero, List.set_cons_succ, i64_w, i32_w]
    rfl
  refine pure_ (i := 9) (N := (some 13)) (v := ?_) (a' := ?_) #[true, true, true, true, true, true, true, true, true, true, false, false, false, false, false, false] rfl rfl (any_of HT_.out (by kernel_rfl)) (fun _ _ _ h => h) (Or.inl ⟨by rfl, ?_⟩) ?_ ?_
  rotate_left
  · intro w'
    go_simp
    with_reducible rfl
  rotate_left
  · simp only [Act.put, List.setIfInBounds_toArray, List.set_cons_zero, List.set_cons_succ, i64_w, i32_w]
    rfl
  refine pure_ (i := 10) (N := (some 23)) (v := ?_) (a' := ?_) #[true, true, true, true, true, true, true, true, true, true, true, false, false, false, false, false] rfl rfl (any_of HT_.out (by kernel_rfl)) (fun _ _ _ h => h) (Or.inl ⟨by rfl, ?_⟩) ?_ ?_
  rotate_left
  · intro w'
    go_simp
    with_reducible rfl
  rotate_left
  · simp only [Act.put, List.setIfInBounds_toArray, List.set_cons_zero, List.set_cons_succ, i64_w, i32_w]
    rfl
  refine pure_ (i := 11) (N := (some 24)) (v := ?_) (a' := ?_) #[true, true, true, true, true, true, true, true, true, true, true, true, false, false, false, false] rfl rfl (any_of HT_.out (by kernel_rfl)) (fun _ _ _ h => h) (Or.inl ⟨by rfl, ?_⟩) ?_ ?_
  rotate_left
  · intro w'
    go_simp
    with_reducible rfl
  rotate_left
  · simp only [Act.put, List.setIfInBounds_toArray, List.set_cons_zero, List.set_cons_succ, i64_w, i32_w]
    rfl
  refine pure_ (i := 12) (N := (some 25)) (v := ?_) (a' := ?_) #[true, true, true, true, true, true, true, true, true, true, true, true, true, false, false, false] rfl rfl (any_of HT_.out (by kernel_rfl)) (fun _ _ _ h => h) (Or.inl ⟨by rfl, ?_⟩) ?_ ?_
  rotate_left
  · intro w'
    go_simp
    with_reducible rfl
  rotate_left
  · simp only [Act.put, List.setIfInBounds_toArray, List.set_cons_zero, List.set_cons_succ, i64_w, i32_w]
    rfl
  refine pure_ (i := 13) (N := (some 5)) (v := ?_) (a' := ?_) #[true, true, true, true, true, true, true, true, true, true, true, true, true, true, false, false] rfl rfl (any_of HT_.out (by kernel_rfl)) (fun _ _ _ h => h) (Or.inl ⟨by rfl, ?_⟩) ?_ ?_
  rotate_left
  · intro w'
    go_simp
    with_reducible rfl
  rotate_left
  · simp only [Act.put, List.setIfInBounds_toArray, List.set_cons_zero, List.set_cons_succ, i64_w, i32_w]
    rfl
  refine pure_ (i := 14) (N := (some 6)) (v := ?_) (a' := ?_) #[true, true, true, true, true, true, true, true, true, true, true, true, true, true, true, false] rfl rfl (any_of HT_.out (by kernel_rfl)) (fun _ _ _ h => h) (Or.inl ⟨by rfl, ?_⟩) ?_ ?_
  rotate_left
  · intro w'
    go_simp
    with_reducible rfl
  rotate_left
  · simp only [Act.put, List.setIfInBounds_toArray, List.set_cons_zero, List.set_cons_succ, i64_w, i32_w]
    rfl
  refine pure_ (i := 15) (N := (some 7)) (v := ?_) (a' := ?_) #[true, true, true, true, true, true, true, true, true, true, true, true, true, true, true, true] rfl rfl (any_of HT_.out (by kernel_rfl)) (fun _ _ _ h => h) (Or.inl ⟨by rfl, ?_⟩) ?_ ?_
  rotate_left
  · intro w'
    go_simp
    with_reducible rfl
  rotate_left
  · simp only [Act.put, List.setIfInBounds_toArray, List.set_cons_zero, List.set_cons_succ, i64_w, i32_w]
    rfl
  refine done_ (done_of HT_.out (by kernel_rfl)) ?_
  obtain ⟨W, hW⟩ : ∃ W, w.drew.drewN m3 = W := ⟨_, rfl⟩
  have hk2 : RdAt W P A c b.length p 0 := by rw [← hW]; exact HK.out
  have hgw : w.grownBy W (some P) := by rw [← hW]; exact (grown_of_below (below_drew1 (Below.refl _ _)) _).trans (grown_drewN _ _ _)
  rw [hW]
  have HK2 := Lib.hid hk2
  have HGW := Lib.hid hgw
  have c2 := hk2.c2
  have c1 := hk2.c1
  have kg := fun i => hk2.f i
  clear hW hk2 hgw HK k2 kf hS HG
  have hU : IntKind.u64.wrap top = top := by rw [IntKind.wrap_u64]; omega
  by_cases h1 : er ≠ 0
  · have t1 : (er == 0) = false := by simpa using h1
    have t2 : (er != 0) = true := by simpa using h1
    have hX := HX.out
    rw [if_pos h1] at hX
    subst hX
    clear hgr HQ h1 HX
    go_wp2
    go_ret
    exact ⟨rfl, ⟨p, hp, rfl, HK2.out.err er⟩, grownBy_set _ _ _ _ HGW.out⟩
  obtain rfl : er = 0 := by omega
  obtain ⟨q, hq, _, hqb⟩ := HQ.out rfl
  have hg0 := (hgr rfl).2.2.2
  subst hq
  have hX := HX.out
  rw [if_neg h1] at hX
  clear hgr HQ h1 HX
  by_cases h2 : top < n
  · have t1 : decide (top < n) = true := decide_eq_true h2
    rw [if_pos h2] at hX
    subst hX
    clear h2
    go_wp2
    go_ret
    exact ⟨rfl, ⟨p, hp, rfl, HK2.out.err 4⟩, grownBy_set _ _ _ _ HGW.out⟩
  · have t1 : decide (top < n) = false := decide_eq_false h2
    rw [if_neg h2, Int.toNat_natCast] at hX
    subst hX
    go_wp2
    go_ret
    exact ⟨rfl, ⟨q, hqb, rfl, HK2.out.put q⟩, grownBy_set _ _ _ _ HGW.out⟩
end Go.Proofs.Ytmbnjgnmblgjoaa.Man
end

-- RefReadDoc
section
/- The reference's reader: tokens. Printed by wip/tools/gen_refreaddoc.py. -/

namespace Go.Proofs.Ytmbnjgnmblgjoaa.Man
open Go.RowKit Go.Proofs.YtmbnjgnmblgjoaaW.PrintWords Go.Proofs.YtmbnjgnmblgjoaaW.PrintLast Go.Proofs.YtmbnjgnmblgjoaaW.PrintMore
set_option linter.unusedVariables false
set_option linter.unusedSimpArgs false
set_option maxRecDepth 100000

def ntok (s : Left) : K.S111 × Left :=
  if (nnum most s).1 % 4 = 0 then (⟨0, 0, (nnum most s).1 / 4, (nnum most (nnum most s).2).1⟩, (nnum most (nnum most s).2).2)
  else if (nnum most s).1 % 4 = 1 ∨ (nnum most s).1 % 4 = 3 then (⟨(nnum most s).1 % 4, (nnum most (nnum most s).2).1, (nnum most s).1 / 4, 0⟩, (nnum most (nnum most s).2).2)
  else (⟨2, 0, (nnum most s).1 / 4, 0⟩, (nnum most s).2)
def ntoks : Nat → Left → List K.S111 × Left
  | 0, s => ([], s)
  | n + 1, s => if s.2 = 0 then ((ntok s).1 :: (ntoks n (ntok s).2).1, (ntoks n (ntok s).2).2) else ([], s)
def ndoc (s : Left) : List K.S111 × Left := ntoks (nnum 2048 s).1.toNat (nnum 2048 s).2
theorem ntoks_stop (n : Nat) (s : Left) (h : s.2 ≠ 0) : ntoks n s = ([], s) := by
  cases n with
  | zero => rfl
  | succ n => rw [ntoks, if_neg h]
theorem nnum_range (top : Int) (s : Left) (ht : 0 ≤ top) : 0 ≤ (nnum top s).1 ∧ (nnum top s).1 ≤ top := by
  unfold nnum rnum
  split
  · exact ⟨Int.le_refl _, ht⟩
  · split
    · rename_i hr
      split at hr
      · cases hr
      · split at hr
        · cases hr
        · simp only [Except.ok.injEq, Prod.mk.injEq] at hr
          obtain ⟨rfl, _⟩ := hr
          exact ⟨by omega, by omega⟩
    · exact ⟨Int.le_refl _, ht⟩
theorem LeftAt.onB {w w1 : World} {P c : Nat} {A : Option Addr} {b : List Int} {s : Left} (h : LeftAt w P A c b s) (e : w1.heap[P]? = w.heap[P]?) : LeftAt w1 P A c b s := by obtain ⟨q, h1, h2, k⟩ := h; exact ⟨q, h1, h2, e.trans k⟩
set_option maxHeartbeats 16000000 in
theorem ndoc_is {w0 w : World} {P c : Nat} {A : Option Addr} {b : List Int} {s : Left} (hC : Kd.C (Kd.int .u8) w0 A b.length b) (hc : b.length ≤ c) (hB : areBytesN b = true) (hl : b.length ≤ 140737488351232) (hb : Below w0.heap.size w0 w) (hP : w0.heap.size ≤ P) (k : LeftAt w P A c b s) :
    Calls Try.prog 127 #[.pointer (some ⟨P, 0, none⟩)] w fun e w' => ∃ v, e = .returned v ∧ TR w' w.heap.size v (ndoc s).1 ∧ LeftAt w' P A c b (ndoc s).2 ∧ w.grownBy w' (some P) := by
  have hPl := k.lt
  have HG0 := Lib.hid (fun (W : World) (hg : w.grownBy W (some P)) (top : Int) (t : Left) (ht0 : 0 ≤ top) (ht1 : top ≤ 2147483647) (hk : LeftAt W P A c b t) => nnum_is hk (Kd.C_below hC (below_of_grown hb hg hP)) hc hB hl top ht0 ht1)
  obtain ⟨X, hX⟩ : ∃ X, ndoc s = X := ⟨_, rfl⟩
  rw [hX]
  unfold ndoc at hX
  have hN := HG0.out w (World.grownBy.refl _ _) 2048 s (by decide) (by decide) k
  have hr := nnum_range 2048 s (by decide)
  obtain ⟨⟨n, s1⟩, hs1⟩ : ∃ p, nnum 2048 s = p := ⟨_, rfl⟩
  rw [hs1] at hX hN hr
  simp only at hX hN hr
  obtain ⟨N, rfl⟩ : ∃ N : Nat, n = (N : Int) := ⟨n.toNat, by omega⟩
  rw [Int.toNat_natCast] at hX
  have hN2 : N ≤ 2048 := by omega
  have HN := Lib.hid hN
  have HX := Lib.hid hX.symm
  clear hC hb k hN hX hs1 hr
  go_enter Try.func127, Try.ntmps127
  go_wp2_with (go_at_call 133; refine HN.out.mono ?_; rintro e w2 ⟨rfl, hk, hg⟩; have HK2 := Lib.hid hk; have HG2 := Lib.hid hg; clear hk hg)
  go_loopg [4, 5] N (fun g s4 s5 wr => ∃ (i : Nat) (ys : List K.S111) (t : Left), s5 = .int .i64 i ∧ i ≤ N ∧ g = N - i ∧ ys.length = i ∧ Hid (X = (ys ++ (ntoks (N - i) t).1, (ntoks (N - i) t).2)) ∧ Hid (TR wr w.heap.size s4 ys) ∧ Hid (LeftAt wr P A c b t) ∧ Hid (w.grownBy wr (some P)))
  case atStart => exact ⟨0, [], s1, rfl, Nat.zero_le _, rfl, rfl, Lib.hid (by rw [HX.out, Nat.sub_zero, List.nil_append]), Lib.hid (Kd.R_nil _ _ _ _ _), HK2, HG2⟩
  case round =>
    clear HX HK2 HG2 HN
    obtain ⟨i, ys, t, rfl, hi, hg, hyl, HX, HT, HK, HG⟩ := hrel
    have r2 := HK.out.c2
    have stop1 : ntoks (N - i) t = ([], t) → X = (ys, t) := fun h => by rw [HX.out, h, List.append_nil]
    by_cases hlt : i < N
    · by_cases h0 : t.2 = 0
      · obtain ⟨d, hd⟩ : ∃ d, N - i = d + 1 := ⟨N - i - 1, by omega⟩
        have hd2 : N - (i + 1) = d := by omega
        have hX := HX.out
        rw [hd, ntoks, if_pos h0] at hX
        have t0 : (t.2 == 0) = true := by simpa using h0
        have hN := HG0.out wr HG.out most t (by decide) (by decide) HK.out
        have hr := nnum_range most t (by decide)
        have hx : X = ((ys ++ [(ntok t).1]) ++ (ntoks (N - (i + 1)) (ntok t).2).1, (ntoks (N - (i + 1)) (ntok t).2).2) := by rw [hX, hd2, List.append_assoc]; rfl
        unfold ntok at hx
        obtain ⟨⟨kk, t1⟩, ht1⟩ : ∃ p, nnum most t = p := ⟨_, rfl⟩
        rw [ht1] at hx hN hr
        simp only at hx hN hr
        unfold most at hN hr
        have HN := Lib.hid hN
        obtain ⟨a, ha⟩ : ∃ a, kk % 4 = a := ⟨_, rfl⟩
        have haa : a = 0 ∨ a = 1 ∨ a = 2 ∨ a = 3 := by omega
        rw [ha] at hx
        have HX2 := Lib.hid hx
        have hrem : kk.tmod 4 = a := by rw [Int.tmod_eq_emod_of_nonneg hr.1]; exact ha
        have hquo : kk.tdiv 4 = kk / 4 := Int.tdiv_eq_ediv_of_nonneg hr.1
        have hk0 := hr.1
        have hk1 := hr.2
        have HL4 : Hid (ys.length ≤ 4000) := Lib.hid (by omega)
        have hwz := HG.out.size
        have HA := Lib.hid ha
        clear hX hx hN hd hd2 ht1 stop1 HX ha hr
        go_upto_region 8 with (go_at_call 133; refine HN.out.mono ?_; rintro e w3 ⟨rfl, hk, hg⟩; have HK3 := Lib.hid hk; have HG3 := Lib.hid (HG.out.trans hg); have HT3 : Hid (TR w3 w.heap.size _ ys) := Lib.hid (Kd.R_mono (Kd.R_grown (Kd.R_bound HT.out) hg (fun j hj e => by have h1 := hj.2.1; have h2 := Option.some.inj e; omega)) (fun _ _ => trivial)); clear hk hg)
        rcases haa with rfl | rfl | rfl | rfl
        · have hx := HX2.out
          rw [if_pos rfl] at hx
          obtain ⟨wt, hwt⟩ : ∃ wt, w3.alloc (.cells #[.int .i64 0, .int .i64 0, .int .i64 (kk / 4), .int .i64 0] 111) = wt := ⟨_, rfl⟩
          have hbt : Below w3.heap.size w3 wt := by rw [← hwt]; exact (Below.refl _ _).alloc (Nat.le_refl _) _
          have hTK : TokAt wt w3.heap.size ⟨0, 0, kk / 4, 0⟩ := by rw [← hwt]; exact World.alloc_heap_new w3 _
          have hzt : wt.heap.size = w3.heap.size + 1 := by rw [← hwt]; exact World.size_alloc _ _
          rw [hwt]
          have e0 := hTK.c0
          have hKt := HK3.out.below hbt HK3.out.lt
          have hGt := HG3.out.trans (grown_of_below hbt _)
          have hN2 := HG0.out wt hGt most t1 (by decide) (by decide) hKt
          obtain ⟨⟨m, t2⟩, ht2⟩ : ∃ p, nnum most t1 = p := ⟨_, rfl⟩
          rw [ht2] at hx hN2
          simp only at hx hN2
          unfold most at hN2
          have HN2 := Lib.hid hN2
          have HXX := Lib.hid hx
          have HTK := Lib.hid hTK
          have HBT := Lib.hid hbt
          have HGT := Lib.hid hGt
          clear hN2 hx hTK hbt hGt hKt ht2 hwt hzt HX2 HN
          go_upto_region 12 with ((go_at_call 133; refine HN2.out.mono ?_; rintro e w4 ⟨rfl, hk, hg⟩; have HK4 := Lib.hid hk; have hT4 : TokAt w4 w3.heap.size ⟨0, 0, kk / 4, 0⟩ := (hg.block _ HTK.out.lt (by intro e; have e2 := Option.some.inj e; have := HK3.out.lt; omega)).trans HTK.out; have d0 := hT4.c0; have d1 := hT4.c1; have d2 := hT4.c2; have d3 := hT4.c3; have df := hT4.f 3; have HG4 := Lib.hid (HGT.out.trans hg); have HT4 := Lib.hid (TR.over HT3.out ((grown_of_below HBT.out _).trans hg) hPl w3.heap.size 3 (.int .i64 m) (Nat.le_refl _)); have HZ4 : Hid ((w4.setCell ⟨w3.heap.size, 3, none⟩ (.int .i64 m)).heap.size = w4.heap.size) := Lib.hid (by simp [World.setCell]); have HY4 : Hid (w.heap.size ≤ (w4.setCell ⟨w3.heap.size, 3, none⟩ (.int .i64 m)).heap.size) := Lib.hid (by rw [HZ4.out]; exact HG4.out.size); clear hk hg hT4))
          go_wp2_with ((at_builtin; have hq1 := HT4.out; have hq2 := HY4.out; refine TR.push_ev (w := w4.setCell ⟨w3.heap.size, 3, none⟩ (.int .i64 m)) (N := w4.heap.size) HZ4.out hq1 rfl (.tmp 46) (.tmp 48) rfl rfl rfl hq2 HL4.out ?_; clear hq1 hq2; intro v5 w5 hr5 hb5; have HT5 := Lib.hid hr5; have HG5 := Lib.hid (grown_onB (grown_setT HG4.out w3.heap.size 3 (.int .i64 m) HG3.out.size) hb5 (Nat.le_refl _)); have HK5 : Hid (LeftAt w5 P A c b t2) := Lib.hid (HK4.out.onB ((hb5.block _ hPl).trans (Below.heap_setCell w4 _ _ _ (by have := HK3.out.lt; show P ≠ w3.heap.size; omega)))); clear hr5 hb5))
          go_roundg (N - (i + 1))
          case measure => omega
          case rel => exact ⟨i + 1, ys ++ [⟨0, 0, kk / 4, m⟩], t2, by go_num, by omega, rfl, by rw [List.length_append, hyl]; rfl, HXX, HT5, HK5, HG5⟩
        · have hx := HX2.out
          rw [if_neg (by decide), if_pos (by decide)] at hx
          obtain ⟨wt, hwt⟩ : ∃ wt, w3.alloc (.cells #[.int .i64 1, .int .i64 0, .int .i64 (kk / 4), .int .i64 0] 111) = wt := ⟨_, rfl⟩
          have hbt : Below w3.heap.size w3 wt := by rw [← hwt]; exact (Below.refl _ _).alloc (Nat.le_refl _) _
          have hTK : TokAt wt w3.heap.size ⟨1, 0, kk / 4, 0⟩ := by rw [← hwt]; exact World.alloc_heap_new w3 _
          have hzt : wt.heap.size = w3.heap.size + 1 := by rw [← hwt]; exact World.size_alloc _ _
          rw [hwt]
          have e0 := hTK.c0
          have hKt := HK3.out.below hbt HK3.out.lt
          have hGt := HG3.out.trans (grown_of_below hbt _)
          have hN2 := HG0.out wt hGt most t1 (by decide) (by decide) hKt
          obtain ⟨⟨m, t2⟩, ht2⟩ : ∃ p, nnum most t1 = p := ⟨_, rfl⟩
          rw [ht2] at hx hN2
          simp only at hx hN2
          unfold most at hN2
          have HN2 := Lib.hid hN2
          have HXX := Lib.hid hx
          have HTK := Lib.hid hTK
          have HBT := Lib.hid hbt
          have HGT := Lib.hid hGt
          clear hN2 hx hTK hbt hGt hKt ht2 hwt hzt HX2 HN
          go_upto_region 12 with ((go_at_call 133; refine HN2.out.mono ?_; rintro e w4 ⟨rfl, hk, hg⟩; have HK4 := Lib.hid hk; have hT4 : TokAt w4 w3.heap.size ⟨1, 0, kk / 4, 0⟩ := (hg.block _ HTK.out.lt (by intro e; have e2 := Option.some.inj e; have := HK3.out.lt; omega)).trans HTK.out; have d0 := hT4.c0; have d1 := hT4.c1; have d2 := hT4.c2; have d3 := hT4.c3; have df := hT4.f 1; have HG4 := Lib.hid (HGT.out.trans hg); have HT4 := Lib.hid (TR.over HT3.out ((grown_of_below HBT.out _).trans hg) hPl w3.heap.size 1 (.int .i64 m) (Nat.le_refl _)); have HZ4 : Hid ((w4.setCell ⟨w3.heap.size, 1, none⟩ (.int .i64 m)).heap.size = w4.heap.size) := Lib.hid (by simp [World.setCell]); have HY4 : Hid (w.heap.size ≤ (w4.setCell ⟨w3.heap.size, 1, none⟩ (.int .i64 m)).heap.size) := Lib.hid (by rw [HZ4.out]; exact HG4.out.size); clear hk hg hT4))
          go_wp2_with ((at_builtin; have hq1 := HT4.out; have hq2 := HY4.out; refine TR.push_ev (w := w4.setCell ⟨w3.heap.size, 1, none⟩ (.int .i64 m)) (N := w4.heap.size) HZ4.out hq1 rfl (.tmp 46) (.tmp 48) rfl rfl rfl hq2 HL4.out ?_; clear hq1 hq2; intro v5 w5 hr5 hb5; have HT5 := Lib.hid hr5; have HG5 := Lib.hid (grown_onB (grown_setT HG4.out w3.heap.size 1 (.int .i64 m) HG3.out.size) hb5 (Nat.le_refl _)); have HK5 : Hid (LeftAt w5 P A c b t2) := Lib.hid (HK4.out.onB ((hb5.block _ hPl).trans (Below.heap_setCell w4 _ _ _ (by have := HK3.out.lt; show P ≠ w3.heap.size; omega)))); clear hr5 hb5))
          go_roundg (N - (i + 1))
          case measure => omega
          case rel => exact ⟨i + 1, ys ++ [⟨1, m, kk / 4, 0⟩], t2, by go_num, by omega, rfl, by rw [List.length_append, hyl]; rfl, HXX, HT5, HK5, HG5⟩
        · have hx := HX2.out
          rw [if_neg (by decide), if_neg (by decide)] at hx
          obtain ⟨wt, hwt⟩ : ∃ wt, w3.alloc (.cells #[.int .i64 2, .int .i64 0, .int .i64 (kk / 4), .int .i64 0] 111) = wt := ⟨_, rfl⟩
          have hbt : Below w3.heap.size w3 wt := by rw [← hwt]; exact (Below.refl _ _).alloc (Nat.le_refl _) _
          have hTK : TokAt wt w3.heap.size ⟨2, 0, kk / 4, 0⟩ := by rw [← hwt]; exact World.alloc_heap_new w3 _
          have hzt : wt.heap.size = w3.heap.size + 1 := by rw [← hwt]; exact World.size_alloc _ _
          rw [hwt]
          have e0 := hTK.c0
          have hKt := HK3.out.below hbt HK3.out.lt
          have hGt := HG3.out.trans (grown_of_below hbt _)
          have e1 := hTK.c1
          have e2 := hTK.c2
          have e3 := hTK.c3
          have HXX := Lib.hid hx
          have HKT := Lib.hid hKt
          have HGT := Lib.hid hGt
          have HTT : Hid (TR wt w.heap.size _ ys) := Lib.hid (HT3.out.grown (grown_of_below hbt (some P)) hPl)
          have HZT : Hid (w.heap.size ≤ wt.heap.size) := Lib.hid hGt.size
          clear hx hTK hbt hGt hKt hwt HX2 HN
          go_upto_region 12 with (fail)
          go_wp2_with (at_builtin; have hq1 := HTT.out; have hq2 := HZT.out; refine TR.push_ev (w := wt) (N := w3.heap.size + 1) hzt hq1 rfl (.tmp 46) (.tmp 48) rfl rfl rfl hq2 HL4.out ?_; clear hq1 hq2; intro v5 w5 hr5 hb5; have HT5 := Lib.hid hr5; have HG5 := Lib.hid (grown_onB HGT.out hb5 (Nat.le_refl _)); have HK5 : Hid (LeftAt w5 P A c b t1) := Lib.hid (HKT.out.onB (hb5.block _ hPl)); clear hr5 hb5)
          go_roundg (N - (i + 1))
          case measure => omega
          case rel => exact ⟨i + 1, ys ++ [⟨2, 0, kk / 4, 0⟩], t1, by go_num, by omega, rfl, by rw [List.length_append, hyl]; rfl, HXX, HT5, HK5, HG5⟩
        · have hx := HX2.out
          rw [if_neg (by decide), if_pos (by decide)] at hx
          obtain ⟨wt, hwt⟩ : ∃ wt, w3.alloc (.cells #[.int .i64 3, .int .i64 0, .int .i64 (kk / 4), .int .i64 0] 111) = wt := ⟨_, rfl⟩
          have hbt : Below w3.heap.size w3 wt := by rw [← hwt]; exact (Below.refl _ _).alloc (Nat.le_refl _) _
          have hTK : TokAt wt w3.heap.size ⟨3, 0, kk / 4, 0⟩ := by rw [← hwt]; exact World.alloc_heap_new w3 _
          have hzt : wt.heap.size = w3.heap.size + 1 := by rw [← hwt]; exact World.size_alloc _ _
          rw [hwt]
          have e0 := hTK.c0
          have hKt := HK3.out.below hbt HK3.out.lt
          have hGt := HG3.out.trans (grown_of_below hbt _)
          have hN2 := HG0.out wt hGt most t1 (by decide) (by decide) hKt
          obtain ⟨⟨m, t2⟩, ht2⟩ : ∃ p, nnum most t1 = p := ⟨_, rfl⟩
          rw [ht2] at hx hN2
          simp only at hx hN2
          unfold most at hN2
          have HN2 := Lib.hid hN2
          have HXX := Lib.hid hx
          have HTK := Lib.hid hTK
          have HBT := Lib.hid hbt
          have HGT := Lib.hid hGt
          clear hN2 hx hTK hbt hGt hKt ht2 hwt hzt HX2 HN
          go_upto_region 12 with ((go_at_call 133; refine HN2.out.mono ?_; rintro e w4 ⟨rfl, hk, hg⟩; have HK4 := Lib.hid hk; have hT4 : TokAt w4 w3.heap.size ⟨3, 0, kk / 4, 0⟩ := (hg.block _ HTK.out.lt (by intro e; have e2 := Option.some.inj e; have := HK3.out.lt; omega)).trans HTK.out; have d0 := hT4.c0; have d1 := hT4.c1; have d2 := hT4.c2; have d3 := hT4.c3; have df := hT4.f 1; have HG4 := Lib.hid (HGT.out.trans hg); have HT4 := Lib.hid (TR.over HT3.out ((grown_of_below HBT.out _).trans hg) hPl w3.heap.size 1 (.int .i64 m) (Nat.le_refl _)); have HZ4 : Hid ((w4.setCell ⟨w3.heap.size, 1, none⟩ (.int .i64 m)).heap.size = w4.heap.size) := Lib.hid (by simp [World.setCell]); have HY4 : Hid (w.heap.size ≤ (w4.setCell ⟨w3.heap.size, 1, none⟩ (.int .i64 m)).heap.size) := Lib.hid (by rw [HZ4.out]; exact HG4.out.size); clear hk hg hT4))
          go_wp2_with ((at_builtin; have hq1 := HT4.out; have hq2 := HY4.out; refine TR.push_ev (w := w4.setCell ⟨w3.heap.size, 1, none⟩ (.int .i64 m)) (N := w4.heap.size) HZ4.out hq1 rfl (.tmp 46) (.tmp 48) rfl rfl rfl hq2 HL4.out ?_; clear hq1 hq2; intro v5 w5 hr5 hb5; have HT5 := Lib.hid hr5; have HG5 := Lib.hid (grown_onB (grown_setT HG4.out w3.heap.size 1 (.int .i64 m) HG3.out.size) hb5 (Nat.le_refl _)); have HK5 : Hid (LeftAt w5 P A c b t2) := Lib.hid (HK4.out.onB ((hb5.block _ hPl).trans (Below.heap_setCell w4 _ _ _ (by have := HK3.out.lt; show P ≠ w3.heap.size; omega)))); clear hr5 hb5))
          go_roundg (N - (i + 1))
          case measure => omega
          case rel => exact ⟨i + 1, ys ++ [⟨3, m, kk / 4, 0⟩], t2, by go_num, by omega, rfl, by rw [List.length_append, hyl]; rfl, HXX, HT5, HK5, HG5⟩
      · have hX := stop1 (ntoks_stop _ _ h0)
        have t0 : (t.2 == 0) = false := by simpa using h0
        have HXX := Lib.hid hX
        clear stop1 HX hX
        go_wp2
        go_ret
        exact ⟨_, rfl, by rw [HXX.out]; exact HT.out, by rw [HXX.out]; exact HK.out, HG.out⟩
    · obtain rfl : i = N := by omega
      have HXX := Lib.hid (stop1 (by rw [Nat.sub_self, ntoks]))
      clear stop1 HX
      go_wp2
      go_ret
      exact ⟨_, rfl, by rw [HXX.out]; exact HT.out, by rw [HXX.out]; exact HK.out, HG.out⟩
end Go.Proofs.Ytmbnjgnmblgjoaa.Man
end

-- RefReadEnt
section
/- The reference's reader: an entry. Printed by wip/tools/gen_refreadent.py. -/

namespace Go.Proofs.Ytmbnjgnmblgjoaa.Man
open Go.RowKit Go.Proofs.YtmbnjgnmblgjoaaW.PrintWords Go.Proofs.YtmbnjgnmblgjoaaW.PrintLast Go.Proofs.YtmbnjgnmblgjoaaW.PrintMore
set_option linter.unusedVariables false
set_option linter.unusedSimpArgs false
set_option maxRecDepth 100000

def nentK (who seq k fm tt : Int) (s : Left) : K.S26 × Left :=
  if k = 0 then (match ndoc s with | (l, s) => (⟨who, seq, ⟨k, fm, tt, 0, 0, 0, l, 0⟩⟩, s))
  else if k = 1 then (match nnum most s with | (gf, s) => match nnum most s with | (gt, s) => match nnum most s with | (ins, s) => match ndoc s with | (l, s) => (⟨who, seq, ⟨k, fm, tt, gf, gt, ins, l, 0⟩⟩, s))
  else (match nnum most s with | (m, s) => (⟨who, seq, ⟨k, fm, tt, 0, 0, 0, [], m⟩⟩, s))
def nent (s : Left) : K.S26 × Left :=
  match nnum most s with | (who, s) => match nnum most s with | (seq, s) => match nnum 3 s with | (k, s) => match nnum most s with | (fm, s) => match nnum most s with | (tt, s) => nentK who seq k fm tt s
/-- What a reading of an entry stands at. -/
structure NeS (w W : World) (P : Nat) (A : Option Addr) (c : Nat) (b : List Int) (s : Left) (a0 a1 a2 a3 a4 a5 a6 a7 : Int) (v : Value) (a9 : Int) : Prop where
  left : LeftAt W P A c b s
  ent : EntC W (w.heap.size + 1) a0 a1 a2 a3 a4 a5 a6 a7 v a9
  res : EntC W w.heap.size 0 0 0 0 0 0 0 0 (.slice none 0 0) 0
  gr : w.grownBy W (some P)
  sz : w.heap.size + 2 ≤ W.heap.size
section
variable {w W W' : World} {P c : Nat} {A : Option Addr} {b : List Int} {s s' : Left} {a0 a1 a2 a3 a4 a5 a6 a7 a9 b0 b1 b2 b3 b4 b5 b6 b7 b9 : Int} {v v' : Value}
theorem NeS.num (h : NeS w W P A c b s a0 a1 a2 a3 a4 a5 a6 a7 v a9) (hP : P < w.heap.size) (hk : LeftAt W' P A c b s') (hg : W.grownBy W' (some P)) : NeS w W' P A c b s' a0 a1 a2 a3 a4 a5 a6 a7 v a9 :=
  ⟨hk, h.ent.ne (hg.block _ h.ent.lt (by intro e; have := Option.some.inj e; omega)), h.res.ne (hg.block _ h.res.lt (by intro e; have := Option.some.inj e; omega)), h.gr.trans hg, Nat.le_trans h.sz hg.size⟩
theorem NeS.put (h : NeS w W P A c b s a0 a1 a2 a3 a4 a5 a6 a7 v a9) (hP : P < w.heap.size) (i : Nat) (u : Value) (he : (#[.int .i64 a0, .int .i64 a1, .int .i64 a2, .int .i64 a3, .int .i64 a4, .int .i64 a5, .int .i64 a6, .int .i64 a7, v, .int .i64 a9] : Array Value).setIfInBounds i u = #[.int .i64 b0, .int .i64 b1, .int .i64 b2, .int .i64 b3, .int .i64 b4, .int .i64 b5, .int .i64 b6, .int .i64 b7, v', .int .i64 b9]) : NeS w (W.setCell ⟨w.heap.size + 1, i, none⟩ u) P A c b s b0 b1 b2 b3 b4 b5 b6 b7 v' b9 :=
  ⟨h.left.onB (heap_set_ne W _ i P u (by omega)), h.ent.put i u he, h.res.ne (heap_set_ne W _ i _ u (by omega)), grown_setT h.gr _ i u (by omega), by have := h.sz; simpa [World.setCell] using this⟩
end
theorem grown_setEnt {w w1 : World} {r : Option Nat} (hg : w.grownBy w1 r) (E : Nat) (hE : w.heap.size ≤ E) (b0 b1 b2 b3 b4 b5 b6 b7 : Int) (u : Value) (b9 : Int) : w.grownBy (setEnt w1 E b0 b1 b2 b3 b4 b5 b6 b7 u b9) r :=
  grown_setT (grown_setT (grown_setT (grown_setT (grown_setT (grown_setT (grown_setT (grown_setT (grown_setT (grown_setT hg E 0 _ hE) E 1 _ hE) E 2 _ hE) E 3 _ hE) E 4 _ hE) E 5 _ hE) E 6 _ hE) E 7 _ hE) E 8 _ hE) E 9 _ hE
set_option maxHeartbeats 32000000 in
theorem nent_is {w0 w : World} {P c : Nat} {A : Option Addr} {b : List Int} {s : Left} (hC : Kd.C (Kd.int .u8) w0 A b.length b) (hc : b.length ≤ c) (hB : areBytesN b = true) (hl : b.length ≤ 140737488351232) (hb : Below w0.heap.size w0 w) (hP : w0.heap.size ≤ P) (k : LeftAt w P A c b s) :
    Calls Try.prog 129 #[.pointer (some ⟨P, 0, none⟩)] w fun e w' => ∃ r, e = .returned r ∧ EntR w.heap.size (nent s).1 r w' ∧ LeftAt w' P A c b (nent s).2 ∧ w.grownBy w' (some P) := by
  have hPl := k.lt
  have HG0 := Lib.hid (fun (W : World) (hg : w.grownBy W (some P)) (top : Int) (t : Left) (ht0 : 0 ≤ top) (ht1 : top ≤ 2147483647) (hk : LeftAt W P A c b t) => nnum_is hk (Kd.C_below hC (below_of_grown hb hg hP)) hc hB hl top ht0 ht1)
  have HD0 := Lib.hid (fun (W : World) (hg : w.grownBy W (some P)) (t : Left) (hk : LeftAt W P A c b t) => ndoc_is hC hc hB hl (below_of_grown hb hg hP) hP hk)
  obtain ⟨w1, hw1⟩ : ∃ w1, w1 = (w.alloc (.cells #[.int .i64 0, .int .i64 0, .int .i64 0, .int .i64 0, .int .i64 0, .int .i64 0, .int .i64 0, .int .i64 0, .slice none 0 0, .int .i64 0] 26)).alloc (.cells #[.int .i64 0, .int .i64 0, .int .i64 0, .int .i64 0, .int .i64 0, .int .i64 0, .int .i64 0, .int .i64 0, .slice none 0 0, .int .i64 0] 26) := ⟨_, rfl⟩
  have hb1 : Below w.heap.size w w1 := by rw [hw1]; exact ((Below.refl _ _).alloc (Nat.le_refl _) _).alloc (by simp) _
  have hE1 : NeS w w1 P A c b s 0 0 0 0 0 0 0 0 (.slice none 0 0) 0 := ⟨k.below hb1 hPl, by rw [hw1]; have := World.alloc_heap_new (w.alloc (.cells #[.int .i64 0, .int .i64 0, .int .i64 0, .int .i64 0, .int .i64 0, .int .i64 0, .int .i64 0, .int .i64 0, .slice none 0 0, .int .i64 0] 26)) (.cells #[.int .i64 0, .int .i64 0, .int .i64 0, .int .i64 0, .int .i64 0, .int .i64 0, .int .i64 0, .int .i64 0, .slice none 0 0, .int .i64 0] 26); rwa [World.size_alloc] at this, by rw [hw1]; exact (Below.heap_alloc _ _ _ (by simp)).trans (World.alloc_heap_new w _), grown_of_below hb1 _, by rw [hw1]; simp⟩
  obtain ⟨X, hX⟩ : ∃ X, nent s = X := ⟨_, rfl⟩
  rw [hX]
  unfold nent at hX
  obtain ⟨⟨who, s1⟩, h1⟩ : ∃ p, nnum most s = p := ⟨_, rfl⟩
  obtain ⟨⟨seq, s2⟩, h2⟩ : ∃ p, nnum most s1 = p := ⟨_, rfl⟩
  obtain ⟨⟨kk, s3⟩, h3⟩ : ∃ p, nnum 3 s2 = p := ⟨_, rfl⟩
  obtain ⟨⟨fm, s4⟩, h4⟩ : ∃ p, nnum most s3 = p := ⟨_, rfl⟩
  obtain ⟨⟨tt, s5⟩, h5⟩ : ∃ p, nnum most s4 = p := ⟨_, rfl⟩
  have hr := nnum_range 3 s2 (by decide)
  rw [h3] at hr
  simp only at hr
  simp only [h1, h2, h3, h4, h5] at hX
  unfold nentK at hX
  have HX := Lib.hid hX
  have H1 := Lib.hid h1
  have H2 := Lib.hid h2
  have H3 := Lib.hid h3
  have H4 := Lib.hid h4
  have H5 := Lib.hid h5
  have HE1 := Lib.hid hE1
  have HW1 := Lib.hid hw1
  clear hC hB hb k hX h1 h2 h3 h4 h5 hb1 hE1 hw1
  go_enter Try.func129, Try.ntmps129
  go_upto_region 2 with (fail)
  rw [← HW1.out]
  clear HW1
  have hN := HG0.out _ HE1.out.gr most s (by decide) (by decide) HE1.out.left
  rw [H1.out] at hN
  unfold most at hN
  have HN := Lib.hid hN
  clear hN
  go_upto_region 3 with (go_at_call 133; refine HN.out.mono ?_; rintro e v1 ⟨rfl, hk, hg⟩; have HF1 := Lib.hid (HE1.out.num hPl hk hg); have hcc := HF1.out.ent.cells; have hff := HF1.out.ent.f 0; obtain ⟨q0, q1, q2, q3, q4, q5, q6, q7, q8, q9⟩ := hcc; clear hk hg)
  clear q0 q1 q2 q3 q4 q5 q6 q7 q8 q9 hff HN
  have HE2 : Hid (NeS w (v1.setCell ⟨w.heap.size + 1, 0, none⟩ (.int .i64 who)) P A c b s1 who 0 0 0 0 0 0 0 (.slice none 0 0) 0) := Lib.hid (HF1.out.put hPl 0 (.int .i64 who) rfl)
  obtain ⟨w2_, hw2_⟩ : ∃ q, (v1.setCell ⟨w.heap.size + 1, 0, none⟩ (.int .i64 who)) = q := ⟨_, rfl⟩
  rw [hw2_] at HE2 ⊢
  clear hw2_ HE1 HF1
  have hN := HG0.out _ HE2.out.gr most s1 (by decide) (by decide) HE2.out.left
  rw [H2.out] at hN
  unfold most at hN
  have HN := Lib.hid hN
  clear hN
  go_upto_region 4 with (go_at_call 133; refine HN.out.mono ?_; rintro e v2 ⟨rfl, hk, hg⟩; have HF2 := Lib.hid (HE2.out.num hPl hk hg); have hcc := HF2.out.ent.cells; have hff := HF2.out.ent.f 1; obtain ⟨q0, q1, q2, q3, q4, q5, q6, q7, q8, q9⟩ := hcc; clear hk hg)
  clear q0 q1 q2 q3 q4 q5 q6 q7 q8 q9 hff HN
  have HE3 : Hid (NeS w (v2.setCell ⟨w.heap.size + 1, 1, none⟩ (.int .i64 seq)) P A c b s2 who seq 0 0 0 0 0 0 (.slice none 0 0) 0) := Lib.hid (HF2.out.put hPl 1 (.int .i64 seq) rfl)
  obtain ⟨w3_, hw3_⟩ : ∃ q, (v2.setCell ⟨w.heap.size + 1, 1, none⟩ (.int .i64 seq)) = q := ⟨_, rfl⟩
  rw [hw3_] at HE3 ⊢
  clear hw3_ HE2 HF2
  have hN := HG0.out _ HE3.out.gr 3 s2 (by decide) (by decide) HE3.out.left
  rw [H3.out] at hN
  skip
  have HN := Lib.hid hN
  clear hN
  go_upto_region 5 with (go_at_call 133; refine HN.out.mono ?_; rintro e v3 ⟨rfl, hk, hg⟩; have HF3 := Lib.hid (HE3.out.num hPl hk hg); have hcc := HF3.out.ent.cells; have hff := HF3.out.ent.f 2; obtain ⟨q0, q1, q2, q3, q4, q5, q6, q7, q8, q9⟩ := hcc; clear hk hg)
  clear q0 q1 q2 q3 q4 q5 q6 q7 q8 q9 hff HN
  have HE4 : Hid (NeS w (v3.setCell ⟨w.heap.size + 1, 2, none⟩ (.int .i64 kk)) P A c b s3 who seq kk 0 0 0 0 0 (.slice none 0 0) 0) := Lib.hid (HF3.out.put hPl 2 (.int .i64 kk) rfl)
  obtain ⟨w4_, hw4_⟩ : ∃ q, (v3.setCell ⟨w.heap.size + 1, 2, none⟩ (.int .i64 kk)) = q := ⟨_, rfl⟩
  rw [hw4_] at HE4 ⊢
  clear hw4_ HE3 HF3
  have hN := HG0.out _ HE4.out.gr most s3 (by decide) (by decide) HE4.out.left
  rw [H4.out] at hN
  unfold most at hN
  have HN := Lib.hid hN
  clear hN
  go_upto_region 6 with (go_at_call 133; refine HN.out.mono ?_; rintro e v4 ⟨rfl, hk, hg⟩; have HF4 := Lib.hid (HE4.out.num hPl hk hg); have hcc := HF4.out.ent.cells; have hff := HF4.out.ent.f 3; obtain ⟨q0, q1, q2, q3, q4, q5, q6, q7, q8, q9⟩ := hcc; clear hk hg)
  clear q0 q1 q2 q3 q4 q5 q6 q7 q8 q9 hff HN
  have HE5 : Hid (NeS w (v4.setCell ⟨w.heap.size + 1, 3, none⟩ (.int .i64 fm)) P A c b s4 who seq kk fm 0 0 0 0 (.slice none 0 0) 0) := Lib.hid (HF4.out.put hPl 3 (.int .i64 fm) rfl)
  obtain ⟨w5_, hw5_⟩ : ∃ q, (v4.setCell ⟨w.heap.size + 1, 3, none⟩ (.int .i64 fm)) = q := ⟨_, rfl⟩
  rw [hw5_] at HE5 ⊢
  clear hw5_ HE4 HF4
  have hN := HG0.out _ HE5.out.gr most s4 (by decide) (by decide) HE5.out.left
  rw [H5.out] at hN
  unfold most at hN
  have HN := Lib.hid hN
  clear hN
  go_upto_region 7 with (go_at_call 133; refine HN.out.mono ?_; rintro e v5 ⟨rfl, hk, hg⟩; have HF5 := Lib.hid (HE5.out.num hPl hk hg); have hcc := HF5.out.ent.cells; have hff := HF5.out.ent.f 4; obtain ⟨q0, q1, q2, q3, q4, q5, q6, q7, q8, q9⟩ := hcc; clear hk hg)
  clear q0 q1 q2 q3 q4 q5 q6 q7 q8 q9 hff HN
  have HE6 : Hid (NeS w (v5.setCell ⟨w.heap.size + 1, 4, none⟩ (.int .i64 tt)) P A c b s5 who seq kk fm tt 0 0 0 (.slice none 0 0) 0) := Lib.hid (HF5.out.put hPl 4 (.int .i64 tt) rfl)
  obtain ⟨w6_, hw6_⟩ : ∃ q, (v5.setCell ⟨w.heap.size + 1, 4, none⟩ (.int .i64 tt)) = q := ⟨_, rfl⟩
  rw [hw6_] at HE6 ⊢
  clear hw6_ HE5 HF5
  have k2 := HE6.out.ent.cells.2.2.1
  have hX := HX.out
  clear HX
  by_cases c0 : kk = 0
  · subst c0
    rw [if_pos (show (0 : Int) = 0 from rfl)] at hX
    obtain ⟨⟨l, s6⟩, h6⟩ : ∃ p, ndoc s5 = p := ⟨_, rfl⟩
    rw [h6] at hX
    simp only at hX
    have H6 := Lib.hid h6
    have HY := Lib.hid hX.symm
    clear hX h6
    have HN := Lib.hid (HD0.out _ HE6.out.gr s5 HE6.out.left)
    go_upto_region 16 with (go_at_call 127; refine HN.out.mono ?_; rintro e v6 ⟨u, rfl, ht, hk, hg⟩; rw [H6.out] at hk ht; obtain ⟨A8, c8, rfl, _, _⟩ := TR.C ht; have HT1 := Lib.hid (Kd.R_lower ht HE6.out.sz); have HF6 := Lib.hid (HE6.out.num hPl hk hg); have hcc := HF6.out.ent.cells; have hff := HF6.out.ent.f 8; obtain ⟨q0, q1, q2, q3, q4, q5, q6, q7, q8, q9⟩ := hcc; clear hk hg ht)
    clear q0 q1 q2 q3 q4 q5 q6 q7 q8 q9 hff HN
    have HE7 : Hid (NeS w (v6.setCell ⟨w.heap.size + 1, 8, none⟩ (.slice A8 l.length c8)) P A c b s6 who seq 0 fm tt 0 0 0 (.slice A8 l.length c8) 0) := Lib.hid (HF6.out.put hPl 8 (.slice A8 l.length c8) rfl)
    have HT2 : Hid (TR (v6.setCell ⟨w.heap.size + 1, 8, none⟩ (.slice A8 l.length c8)) (w.heap.size + 2) (.slice A8 l.length c8) l) := Lib.hid (TR.set HT1.out (E := w.heap.size + 1) (by omega) 8 _)
    obtain ⟨w7_, hw7_⟩ : ∃ q, (v6.setCell ⟨w.heap.size + 1, 8, none⟩ (.slice A8 l.length c8)) = q := ⟨_, rfl⟩
    rw [hw7_] at HE7 HT2 ⊢
    clear hw7_ HE6 HF6 HT1
    obtain ⟨q0, q1, q2, q3, q4, q5, q6, q7, q8, q9⟩ := HE7.out.ent.cells
    obtain ⟨s0, s1_, s2_, s3_, s4_, s5_, s6_, s7_, s8_, s9_⟩ := HE7.out.res.cells
    have sf := HE7.out.res.f
    go_wp2
    obtain ⟨z0, z1, z2, z3, z4, z5, z6, z7, z8, z9⟩ := (HE7.out.res.set who seq 0 fm tt 0 0 0 (.slice A8 l.length c8) 0).cells
    unfold setEnt at z0 z1 z2 z3 z4 z5 z6 z7 z8 z9
    refine bodyPost_ret (v := .agg #[.int .i64 who, .int .i64 seq, .int .i64 0, .int .i64 fm, .int .i64 tt, .int .i64 0, .int .i64 0, .int .i64 0, (.slice A8 l.length c8), .int .i64 0]) (by simp [results, Try.results129, go_sem, z0, z1, z2, z3, z4, z5, z6, z7, z8, z9]) rfl ?_
    rw [HY.out]
    exact ⟨_, rfl, ⟨_, rfl, Kd.R_lower (HT2.out.setEnt (E := w.heap.size) (by omega) _ _ _ _ _ _ _ _ _ _) (by omega)⟩, HE7.out.left.onB (setEnt_ne _ _ _ _ _ _ _ _ _ _ _ _ _ (by omega)), grown_setEnt HE7.out.gr _ (Nat.le_refl _) who seq 0 fm tt 0 0 0 (.slice A8 l.length c8) 0⟩
  · by_cases c1 : kk = 1
    · subst c1
      rw [if_neg (show ¬ ((1 : Int) = 0) by decide), if_pos (show (1 : Int) = 1 from rfl)] at hX
      obtain ⟨⟨gf, s6⟩, h6⟩ : ∃ p, nnum most s5 = p := ⟨_, rfl⟩
      obtain ⟨⟨gt, s7⟩, h7⟩ : ∃ p, nnum most s6 = p := ⟨_, rfl⟩
      obtain ⟨⟨ins, s8⟩, h8⟩ : ∃ p, nnum most s7 = p := ⟨_, rfl⟩
      obtain ⟨⟨l, s9⟩, h9⟩ : ∃ p, ndoc s8 = p := ⟨_, rfl⟩
      simp only [h6, h7, h8, h9] at hX
      have H6 := Lib.hid h6
      have H7 := Lib.hid h7
      have H8 := Lib.hid h8
      have H9 := Lib.hid h9
      have HY := Lib.hid hX.symm
      clear hX h6 h7 h8 h9
      have hN := HG0.out _ HE6.out.gr most s5 (by decide) (by decide) HE6.out.left
      rw [H6.out] at hN
      unfold most at hN
      have HN := Lib.hid hN
      clear hN
      go_upto_region 13 with (go_at_call 133; refine HN.out.mono ?_; rintro e v6 ⟨rfl, hk, hg⟩; have HF6 := Lib.hid (HE6.out.num hPl hk hg); have hcc := HF6.out.ent.cells; have hff := HF6.out.ent.f 5; obtain ⟨q0, q1, q2, q3, q4, q5, q6, q7, q8, q9⟩ := hcc; clear hk hg)
      clear q0 q1 q2 q3 q4 q5 q6 q7 q8 q9 hff HN
      have HE7 : Hid (NeS w (v6.setCell ⟨w.heap.size + 1, 5, none⟩ (.int .i64 gf)) P A c b s6 who seq 1 fm tt gf 0 0 (.slice none 0 0) 0) := Lib.hid (HF6.out.put hPl 5 (.int .i64 gf) rfl)
      obtain ⟨w7_, hw7_⟩ : ∃ q, (v6.setCell ⟨w.heap.size + 1, 5, none⟩ (.int .i64 gf)) = q := ⟨_, rfl⟩
      rw [hw7_] at HE7 ⊢
      clear hw7_ HE6 HF6
      have hN := HG0.out _ HE7.out.gr most s6 (by decide) (by decide) HE7.out.left
      rw [H7.out] at hN
      unfold most at hN
      have HN := Lib.hid hN
      clear hN
      go_upto_region 14 with (go_at_call 133; refine HN.out.mono ?_; rintro e v7 ⟨rfl, hk, hg⟩; have HF7 := Lib.hid (HE7.out.num hPl hk hg); have hcc := HF7.out.ent.cells; have hff := HF7.out.ent.f 6; obtain ⟨q0, q1, q2, q3, q4, q5, q6, q7, q8, q9⟩ := hcc; clear hk hg)
      clear q0 q1 q2 q3 q4 q5 q6 q7 q8 q9 hff HN
      have HE8 : Hid (NeS w (v7.setCell ⟨w.heap.size + 1, 6, none⟩ (.int .i64 gt)) P A c b s7 who seq 1 fm tt gf gt 0 (.slice none 0 0) 0) := Lib.hid (HF7.out.put hPl 6 (.int .i64 gt) rfl)
      obtain ⟨w8_, hw8_⟩ : ∃ q, (v7.setCell ⟨w.heap.size + 1, 6, none⟩ (.int .i64 gt)) = q := ⟨_, rfl⟩
      rw [hw8_] at HE8 ⊢
      clear hw8_ HE7 HF7
      have hN := HG0.out _ HE8.out.gr most s7 (by decide) (by decide) HE8.out.left
      rw [H8.out] at hN
      unfold most at hN
      have HN := Lib.hid hN
      clear hN
      go_upto_region 15 with (go_at_call 133; refine HN.out.mono ?_; rintro e v8 ⟨rfl, hk, hg⟩; have HF8 := Lib.hid (HE8.out.num hPl hk hg); have hcc := HF8.out.ent.cells; have hff := HF8.out.ent.f 7; obtain ⟨q0, q1, q2, q3, q4, q5, q6, q7, q8, q9⟩ := hcc; clear hk hg)
      clear q0 q1 q2 q3 q4 q5 q6 q7 q8 q9 hff HN
      have HE9 : Hid (NeS w (v8.setCell ⟨w.heap.size + 1, 7, none⟩ (.int .i64 ins)) P A c b s8 who seq 1 fm tt gf gt ins (.slice none 0 0) 0) := Lib.hid (HF8.out.put hPl 7 (.int .i64 ins) rfl)
      obtain ⟨w9_, hw9_⟩ : ∃ q, (v8.setCell ⟨w.heap.size + 1, 7, none⟩ (.int .i64 ins)) = q := ⟨_, rfl⟩
      rw [hw9_] at HE9 ⊢
      clear hw9_ HE8 HF8
      have HN := Lib.hid (HD0.out _ HE9.out.gr s8 HE9.out.left)
      go_upto_region 16 with (go_at_call 127; refine HN.out.mono ?_; rintro e v9 ⟨u, rfl, ht, hk, hg⟩; rw [H9.out] at hk ht; obtain ⟨A8, c8, rfl, _, _⟩ := TR.C ht; have HT1 := Lib.hid (Kd.R_lower ht HE9.out.sz); have HF9 := Lib.hid (HE9.out.num hPl hk hg); have hcc := HF9.out.ent.cells; have hff := HF9.out.ent.f 8; obtain ⟨q0, q1, q2, q3, q4, q5, q6, q7, q8, q9⟩ := hcc; clear hk hg ht)
      clear q0 q1 q2 q3 q4 q5 q6 q7 q8 q9 hff HN
      have HE10 : Hid (NeS w (v9.setCell ⟨w.heap.size + 1, 8, none⟩ (.slice A8 l.length c8)) P A c b s9 who seq 1 fm tt gf gt ins (.slice A8 l.length c8) 0) := Lib.hid (HF9.out.put hPl 8 (.slice A8 l.length c8) rfl)
      have HT2 : Hid (TR (v9.setCell ⟨w.heap.size + 1, 8, none⟩ (.slice A8 l.length c8)) (w.heap.size + 2) (.slice A8 l.length c8) l) := Lib.hid (TR.set HT1.out (E := w.heap.size + 1) (by omega) 8 _)
      obtain ⟨w10_, hw10_⟩ : ∃ q, (v9.setCell ⟨w.heap.size + 1, 8, none⟩ (.slice A8 l.length c8)) = q := ⟨_, rfl⟩
      rw [hw10_] at HE10 HT2 ⊢
      clear hw10_ HE9 HF9 HT1
      obtain ⟨q0, q1, q2, q3, q4, q5, q6, q7, q8, q9⟩ := HE10.out.ent.cells
      obtain ⟨s0, s1_, s2_, s3_, s4_, s5_, s6_, s7_, s8_, s9_⟩ := HE10.out.res.cells
      have sf := HE10.out.res.f
      go_wp2
      obtain ⟨z0, z1, z2, z3, z4, z5, z6, z7, z8, z9⟩ := (HE10.out.res.set who seq 1 fm tt gf gt ins (.slice A8 l.length c8) 0).cells
      unfold setEnt at z0 z1 z2 z3 z4 z5 z6 z7 z8 z9
      refine bodyPost_ret (v := .agg #[.int .i64 who, .int .i64 seq, .int .i64 1, .int .i64 fm, .int .i64 tt, .int .i64 gf, .int .i64 gt, .int .i64 ins, (.slice A8 l.length c8), .int .i64 0]) (by simp [results, Try.results129, go_sem, z0, z1, z2, z3, z4, z5, z6, z7, z8, z9]) rfl ?_
      rw [HY.out]
      exact ⟨_, rfl, ⟨_, rfl, Kd.R_lower (HT2.out.setEnt (E := w.heap.size) (by omega) _ _ _ _ _ _ _ _ _ _) (by omega)⟩, HE10.out.left.onB (setEnt_ne _ _ _ _ _ _ _ _ _ _ _ _ _ (by omega)), grown_setEnt HE10.out.gr _ (Nat.le_refl _) who seq 1 fm tt gf gt ins (.slice A8 l.length c8) 0⟩
    · rw [if_neg c0, if_neg c1] at hX
      have t0 : (kk == 0) = false := by simpa using c0
      have t1 : (kk == 1) = false := by simpa using c1
      obtain ⟨⟨m, s6⟩, h6⟩ : ∃ p, nnum most s5 = p := ⟨_, rfl⟩
      rw [h6] at hX
      simp only at hX
      have H6 := Lib.hid h6
      have HY := Lib.hid hX.symm
      clear hX h6 c0 c1
      have hN := HG0.out _ HE6.out.gr most s5 (by decide) (by decide) HE6.out.left
      rw [H6.out] at hN
      unfold most at hN
      have HN := Lib.hid hN
      clear hN
      go_upto_region 16 with (go_at_call 133; refine HN.out.mono ?_; rintro e v6 ⟨rfl, hk, hg⟩; have HF6 := Lib.hid (HE6.out.num hPl hk hg); have hcc := HF6.out.ent.cells; have hff := HF6.out.ent.f 9; obtain ⟨q0, q1, q2, q3, q4, q5, q6, q7, q8, q9⟩ := hcc; clear hk hg)
      clear q0 q1 q2 q3 q4 q5 q6 q7 q8 q9 hff HN
      have HE7 : Hid (NeS w (v6.setCell ⟨w.heap.size + 1, 9, none⟩ (.int .i64 m)) P A c b s6 who seq kk fm tt 0 0 0 (.slice none 0 0) m) := Lib.hid (HF6.out.put hPl 9 (.int .i64 m) rfl)
      obtain ⟨w7_, hw7_⟩ : ∃ q, (v6.setCell ⟨w.heap.size + 1, 9, none⟩ (.int .i64 m)) = q := ⟨_, rfl⟩
      rw [hw7_] at HE7 ⊢
      clear hw7_ HE6 HF6
      obtain ⟨q0, q1, q2, q3, q4, q5, q6, q7, q8, q9⟩ := HE7.out.ent.cells
      obtain ⟨s0, s1_, s2_, s3_, s4_, s5_, s6_, s7_, s8_, s9_⟩ := HE7.out.res.cells
      have sf := HE7.out.res.f
      go_wp2
      obtain ⟨z0, z1, z2, z3, z4, z5, z6, z7, z8, z9⟩ := (HE7.out.res.set who seq kk fm tt 0 0 0 (.slice none 0 0) m).cells
      unfold setEnt at z0 z1 z2 z3 z4 z5 z6 z7 z8 z9
      refine bodyPost_ret (v := .agg #[.int .i64 who, .int .i64 seq, .int .i64 kk, .int .i64 fm, .int .i64 tt, .int .i64 0, .int .i64 0, .int .i64 0, (.slice none 0 0), .int .i64 m]) (by simp [results, Try.results129, go_sem, z0, z1, z2, z3, z4, z5, z6, z7, z8, z9]) rfl ?_
      rw [HY.out]
      exact ⟨_, rfl, ⟨_, rfl, Kd.R_nil _ _ _ _ _⟩, HE7.out.left.onB (setEnt_ne _ _ _ _ _ _ _ _ _ _ _ _ _ (by omega)), grown_setEnt HE7.out.gr _ (Nat.le_refl _) who seq kk fm tt 0 0 0 (.slice none 0 0) m⟩
end Go.Proofs.Ytmbnjgnmblgjoaa.Man
end

-- RefSim
section
/- The reference's reading and the program's: alike. Plain: no program's run. -/

namespace Go.Proofs.Ytmbnjgnmblgjoaa.Man
open Go.RowKit Go.Proofs.YtmbnjgnmblgjoaaW.PrintWords Go.Proofs.YtmbnjgnmblgjoaaW.PrintLast Go.Proofs.YtmbnjgnmblgjoaaW.PrintMore
set_option linter.unusedVariables false
set_option linter.unusedSimpArgs false

def Sim {α : Type} (r : Rd α) (p : α × Left) : Prop := match r with | .ok (x, l) => p = (x, (l, 0)) | .error f => p.2.2 = f ∧ f ≠ 0
theorem Sim.ok {α : Type} (x : α) (l : List Int) : Sim (.ok (x, l)) (x, (l, 0)) := rfl
theorem Sim.bnd {α β : Type} {r : Rd α} {f : α → List Int → Rd β} {p : α × Left} {g : α → Left → β × Left} (h1 : Sim r p) (h2 : ∀ x l, r = .ok (x, l) → Sim (f x l) (g x (l, 0))) (h3 : ∀ x s, s.2 ≠ 0 → (g x s).2.2 = s.2) : Sim (bnd r f) (g p.1 p.2) := by
  match r, h1, h2 with
  | .error e, h1, _ => obtain ⟨h, hne⟩ := h1; exact ⟨by rw [h3 _ _ (by rw [h]; exact hne), h], hne⟩
  | .ok (x, l), h1, h2 => obtain rfl : p = (x, (l, 0)) := h1; exact h2 x l rfl
theorem sim_num (top : Int) (l : List Int) : Sim (rnum top l) (nnum top (l, 0)) := by
  have hne := ErrNz.num top l
  have e : nnum top (l, 0) = match rnum top l with | .ok (n, r) => (n, (r, 0)) | .error f => (0, (l, f)) := by unfold nnum; exact if_neg (show ¬ ((0 : Int) ≠ 0) by decide)
  rw [e]
  revert hne
  rcases rnum top l with f | ⟨n, r⟩ <;> intro hne
  · exact ⟨rfl, hne f rfl⟩
  · rfl
theorem num_stuck (top : Int) (s : Left) (h : s.2 ≠ 0) : nnum top s = (0, s) := by unfold nnum; rw [if_pos h]
theorem rnum_top {top : Int} {l r : List Int} {n : Int} (ht : 0 ≤ top) (h : rnum top l = .ok (n, r)) : 0 ≤ n ∧ n ≤ top := by
  have h1 := nnum_range top (l, 0) ht
  have h2 := sim_num top l
  rw [h] at h2
  rw [show nnum top (l, 0) = (n, (r, 0)) from h2] at h1
  exact h1
theorem sim_tok (l : List Int) : Sim (rtok l) (ntok (l, 0)) := by
  unfold rtok
  refine Sim.bnd (g := fun (k : Int) (s : Left) => if k % 4 = 0 then (K.S111.mk 0 0 (k / 4) (nnum most s).1, (nnum most s).2) else if k % 4 = 1 ∨ k % 4 = 3 then (K.S111.mk (k % 4) (nnum most s).1 (k / 4) 0, (nnum most s).2) else (K.S111.mk 2 0 (k / 4) 0, s)) (sim_num most l) (fun k l _ => ?_) (fun k s h => ?_)
  · show Sim _ (if k % 4 = 0 then _ else _)
    split
    · exact Sim.bnd (g := fun (m : Int) (s : Left) => (K.S111.mk 0 0 (k / 4) m, s)) (sim_num most l) (fun _ _ _ => rfl) (fun _ _ _ => rfl)
    · split
      · exact Sim.bnd (g := fun (m : Int) (s : Left) => (K.S111.mk (k % 4) m (k / 4) 0, s)) (sim_num most l) (fun _ _ _ => rfl) (fun _ _ _ => rfl)
      · rfl
  · simp only [num_stuck most s h]
    split
    · rfl
    · split <;> rfl
theorem sim_toks : ∀ (n : Nat) (l : List Int), Sim (rtoks n l) (ntoks n (l, 0))
  | 0, l => rfl
  | n + 1, l => by
    rw [rtoks, ntoks, if_pos rfl]
    refine Sim.bnd (g := fun (x : K.S111) (s : Left) => (x :: (ntoks n s).1, (ntoks n s).2)) (sim_tok l) (fun x l _ => ?_) (fun x s h => by simp only [ntoks_stop n s h])
    exact Sim.bnd (g := fun (xs : List K.S111) (s : Left) => (x :: xs, s)) (sim_toks n l) (fun _ _ _ => rfl) (fun _ _ _ => rfl)
theorem sim_doc (l : List Int) : Sim (rdoc l) (ndoc (l, 0)) := by
  unfold rdoc
  exact Sim.bnd (g := fun (n : Int) (s : Left) => ntoks n.toNat s) (sim_num 2048 l) (fun n l _ => sim_toks n.toNat l) (fun n s h => by simp only [ntoks_stop _ s h])
theorem doc_stuck (s : Left) (h : s.2 ≠ 0) : ndoc s = ([], s) := by unfold ndoc; rw [num_stuck 2048 s h]; rfl
theorem entK_stuck (who seq k fm tt : Int) (s : Left) (h : s.2 ≠ 0) : (nentK who seq k fm tt s).2 = s := by
  unfold nentK
  split
  · rw [doc_stuck s h]
  · split
    · simp only [num_stuck most s h, doc_stuck s h]
    · rw [num_stuck most s h]
theorem sim_ent (l : List Int) : Sim (rent l) (nent (l, 0)) := by
  unfold rent
  refine Sim.bnd (g := fun (who : Int) (s : Left) => match nnum most s with | (seq, s) => match nnum 3 s with | (k, s) => match nnum most s with | (fm, s) => match nnum most s with | (tt, s) => nentK who seq k fm tt s) (sim_num most l) (fun who l _ => ?_) (fun _ s h => by simp only [num_stuck most s h, num_stuck 3 s h, entK_stuck _ _ _ _ _ s h])
  refine Sim.bnd (g := fun (seq : Int) (s : Left) => match nnum 3 s with | (k, s) => match nnum most s with | (fm, s) => match nnum most s with | (tt, s) => nentK who seq k fm tt s) (sim_num most l) (fun seq l _ => ?_) (fun _ s h => by simp only [num_stuck most s h, num_stuck 3 s h, entK_stuck _ _ _ _ _ s h])
  refine Sim.bnd (g := fun (k : Int) (s : Left) => match nnum most s with | (fm, s) => match nnum most s with | (tt, s) => nentK who seq k fm tt s) (sim_num 3 l) (fun k l hk => ?_) (fun _ s h => by simp only [num_stuck most s h, num_stuck 3 s h, entK_stuck _ _ _ _ _ s h])
  have hkr := rnum_top (by decide) hk
  refine Sim.bnd (g := fun (fm : Int) (s : Left) => match nnum most s with | (tt, s) => nentK who seq k fm tt s) (sim_num most l) (fun fm l _ => ?_) (fun _ s h => by simp only [num_stuck most s h, num_stuck 3 s h, entK_stuck _ _ _ _ _ s h])
  refine Sim.bnd (g := fun (tt : Int) (s : Left) => nentK who seq k fm tt s) (sim_num most l) (fun tt l _ => ?_) (fun _ s h => by simp only [entK_stuck _ _ _ _ _ s h])
  unfold nentK
  by_cases k0 : k = 0
  · rw [if_neg (by omega), if_neg (by omega), if_pos k0]
    exact Sim.bnd (g := fun (d : List K.S111) (s : Left) => (K.S26.mk who seq (K.S24.mk k fm tt 0 0 0 d 0), s)) (sim_doc l) (fun _ _ _ => rfl) (fun _ _ _ => rfl)
  · rw [if_neg k0]
    by_cases k1 : k = 1
    · rw [if_neg (by omega), if_pos k1, if_pos k1]
      refine Sim.bnd (g := fun (gf : Int) (s : Left) => match nnum most s with | (gt, s) => match nnum most s with | (ins, s) => match ndoc s with | (d, s) => (K.S26.mk who seq (K.S24.mk k fm tt gf gt ins d 0), s)) (sim_num most l) (fun gf l _ => ?_) (fun _ s h => by simp only [num_stuck most s h, doc_stuck s h])
      refine Sim.bnd (g := fun (gt : Int) (s : Left) => match nnum most s with | (ins, s) => match ndoc s with | (d, s) => (K.S26.mk who seq (K.S24.mk k fm tt gf gt ins d 0), s)) (sim_num most l) (fun gt l _ => ?_) (fun _ s h => by simp only [num_stuck most s h, doc_stuck s h])
      refine Sim.bnd (g := fun (ins : Int) (s : Left) => match ndoc s with | (d, s) => (K.S26.mk who seq (K.S24.mk k fm tt gf gt ins d 0), s)) (sim_num most l) (fun ins l _ => ?_) (fun _ s h => by simp only [num_stuck most s h, doc_stuck s h])
      exact Sim.bnd (g := fun (d : List K.S111) (s : Left) => (K.S26.mk who seq (K.S24.mk k fm tt gf gt ins d 0), s)) (sim_doc l) (fun _ _ _ => rfl) (fun _ _ _ => rfl)
    · rw [if_pos (by omega), if_neg k1]
      exact Sim.bnd (g := fun (m : Int) (s : Left) => (K.S26.mk who seq (K.S24.mk k fm tt 0 0 0 [] m), s)) (sim_num most l) (fun _ _ _ => rfl) (fun _ _ _ => rfl)
/-- What the reference tells at the end. -/
def nend (s : Left) (fine : Bool) : Int := if s.2 = 0 ∧ (0 < s.1.length ∨ fine = false) then 4 else s.2
theorem end_all {α : Type} (z : α) (ok : α → Int) {r : Rd α} {p : α × Left} (h : Sim r p) : nend p.2 (ok p.1 == 0) = (allF z ok r).2 ∧ (allF z ok r).1 = if nend p.2 (ok p.1 == 0) = 0 then p.1 else z := by
  match r, h with
  | .error f, h =>
    obtain ⟨h1, h2⟩ := h
    have e : nend p.2 (ok p.1 == 0) = f := by unfold nend; rw [if_neg (by rw [h1]; exact fun h => h2 h.1), h1]
    rw [e, if_neg h2]
    exact ⟨rfl, rfl⟩
  | .ok (x, l), h =>
    obtain rfl : p = (x, (l, 0)) := h
    have e : nend (l, 0) (ok x == 0) = if 0 < l.length ∨ ok x ≠ 0 then 4 else 0 := by
      unfold nend
      simp only [true_and, beq_eq_false_iff_ne]
    simp only
    rw [e]
    unfold allF
    simp only
    split
    · exact ⟨rfl, by rw [if_neg (by decide)]⟩
    · exact ⟨rfl, by rw [if_pos rfl]⟩
end Go.Proofs.Ytmbnjgnmblgjoaa.Man
end

-- RefEnd
section
/- The reference's reader: its end; GetDoc. -/

namespace Go.Proofs.Ytmbnjgnmblgjoaa.Man
open Go.RowKit Go.Proofs.YtmbnjgnmblgjoaaW.PrintWords Go.Proofs.YtmbnjgnmblgjoaaW.PrintLast Go.Proofs.YtmbnjgnmblgjoaaW.PrintMore
set_option linter.unusedVariables false
set_option linter.unusedSimpArgs false
set_option maxRecDepth 100000

theorem nend_is {w0 w : World} {P c : Nat} {A : Option Addr} {b : List Int} {s : Left} (hC : Kd.C (Kd.int .u8) w0 A b.length b) (hb : Below w0.heap.size w0 w) (hP : w0.heap.size ≤ P) (k : LeftAt w P A c b s) (fine : Bool) :
    Calls Try.prog 128 #[.pointer (some ⟨P, 0, none⟩), .bool fine] w fun e w' => e = .returned (.int .i64 (nend s fine)) ∧ w.grownBy w' (some P) := by
  obtain ⟨q, hq, hs, hk⟩ := k
  have hI : K.IsS180 w0 w P b q s.2 := ⟨A, c, hk, hP, hC⟩
  have hl : s.1.length = b.length - q := by rw [hs, List.length_drop]
  have hf : ∃ r2 r3, K.emenderref16_reader_end.f b q s.2 fine = some (nend s fine, r2, r3) := by
    unfold K.emenderref16_reader_end.f nend
    by_cases h0 : s.2 = 0
    · rw [if_pos h0]
      by_cases h1 : (q : Int) < (b.length : Int)
      · rw [if_pos h1, if_pos ⟨h0, .inl (by omega)⟩]
        exact ⟨_, _, rfl⟩
      · rw [if_neg h1]
        cases fine
        · rw [if_neg (by decide), if_pos ⟨h0, .inr rfl⟩]
          exact ⟨_, _, rfl⟩
        · rw [if_pos rfl, if_neg (fun h => h.2.elim (fun h => by omega) (fun h => by cases h))]
          exact ⟨_, _, rfl⟩
    · rw [if_neg h0, if_neg (fun h => h0 h.1)]
      exact ⟨_, _, rfl⟩
  obtain ⟨r2, r3, hf⟩ := hf
  refine (K.emenderref16_reader_end.calls P b q s.2 fine _ r2 r3 w0 w hI hb hf).mono ?_
  rintro e w' ⟨he, _, hb', hkb⟩
  exact ⟨he, hb'.os.trans hb.os.symm, hb'.tape.trans hb.tape.symm, hb'.output.trans hb.output.symm, hkb.1, fun j hj hr => hkb.2 j hj (fun e => hr (by rw [e])) (by simp)⟩

set_option maxHeartbeats 16000000 in
theorem rgetDoc_is (w : World) (A : Option Addr) (c : Nat) (b : List Int) (hC : Kd.C (Kd.int .u8) w A b.length b) (hc : b.length ≤ c) (hB : areBytesN b = true) (hl : b.length ≤ 140737488351232) :
    Calls Try.prog 64 #[.slice A b.length c] w fun e w' => ∃ v, e = .returned (.tuple #[v, .int .i64 (getDocF b).2]) ∧ TR w' w.heap.size v (getDocF b).1 ∧ Below w.heap.size w w' := by
  obtain ⟨w1, hw1⟩ : ∃ w1, w1 = w.alloc (.cells #[.slice A b.length c, .int .i64 0, .int .i64 0] 180) := ⟨_, rfl⟩
  have hb1 : Below w.heap.size w w1 := by rw [hw1]; exact (Below.refl _ _).alloc (Nat.le_refl _) _
  have hz1 : w1.heap.size = w.heap.size + 1 := by rw [hw1]; exact World.size_alloc _ _
  have hk1 : LeftAt w1 w.heap.size A c b (b, 0) := ⟨0, Nat.zero_le _, rfl, by rw [hw1]; exact World.alloc_heap_new w _⟩
  have hD := ndoc_is hC hc hB hl hb1 (Nat.le_refl _) hk1
  obtain ⟨he, hv⟩ := end_all [] docE (sim_doc b)
  rw [show allF [] docE (rdoc b) = getDocF b from rfl] at he hv
  rw [← he, hv]
  obtain ⟨⟨xs, st⟩, hst⟩ : ∃ p, ndoc (b, 0) = p := ⟨_, rfl⟩
  rw [hst] at hD ⊢
  simp only at hD ⊢
  have HD := Lib.hid hD
  have HC := Lib.hid hC
  have HB1 := Lib.hid hb1
  have HW1 := Lib.hid hw1
  have HZ1 := Lib.hid hz1
  obtain ⟨E, hE⟩ : ∃ E, docE xs = E := ⟨_, rfl⟩
  rw [hE]
  have HE := Lib.hid hE
  obtain ⟨F, hF⟩ : ∃ F, nend st (E == 0) = F := ⟨_, rfl⟩
  rw [hF]
  have HF := Lib.hid hF
  clear hC hb1 hk1 hD he hv hst hw1 hz1 hE hF
  by_cases h0 : F = 0
  · have t0 : (F != 0) = false := by simpa using h0
    go_enter Try.func64, Try.ntmps64
    go_wp2_with (first
      | (go_at_call 127; rw [← HW1.out]; refine HD.out.mono ?_; rintro e w2 ⟨v, rfl, ht, hk, hg⟩; obtain ⟨A5, k5, rfl, hk5, hC5⟩ := TR.C ht; have HT2 := Lib.hid ht; have HK2 := Lib.hid hk; have HB2 := Lib.hid (below_of_grown HB1.out hg (Nat.le_refl _)); have HP3 := Lib.hid (rputDoc_is A5 k5 xs w2 hC5 hk5); clear hC5 hk5 ht hk hg)
      | (go_at_call 50; refine HP3.out.mono ?_; rintro e w3 ⟨v, rfl, hr, hb⟩; rw [HE.out]; obtain ⟨A6, k6, rfl, _⟩ := hr; have HT3 := Lib.hid (Kd.R_below HT2.out hb); have HK3 := Lib.hid (HK2.out.below hb HK2.out.lt); have HB3 := Lib.hid (HB2.out.trans (hb.mono HB2.out.size)); clear hb)
      | (go_at_call 128; refine (nend_is HC.out HB3.out (Nat.le_refl _) HK3.out (E == 0)).mono ?_; rintro e w4 ⟨rfl, hg⟩; rw [HF.out]; have HT4 := Lib.hid (TR.grown HT3.out hg (by have := HZ1.out; omega)); have HB4 := Lib.hid (below_of_grown HB3.out hg (Nat.le_refl _)); clear hg))
    go_ret2
    subst h0
    exact ⟨_, rfl, Kd.R_lower HT4.out (by have := HZ1.out; omega), HB4.out⟩
  · have t0 : (F != 0) = true := by simpa using h0
    go_enter Try.func64, Try.ntmps64
    go_wp2_with (first
      | (go_at_call 127; rw [← HW1.out]; refine HD.out.mono ?_; rintro e w2 ⟨v, rfl, ht, hk, hg⟩; obtain ⟨A5, k5, rfl, hk5, hC5⟩ := TR.C ht; have HT2 := Lib.hid ht; have HK2 := Lib.hid hk; have HB2 := Lib.hid (below_of_grown HB1.out hg (Nat.le_refl _)); have HP3 := Lib.hid (rputDoc_is A5 k5 xs w2 hC5 hk5); clear hC5 hk5 ht hk hg)
      | (go_at_call 50; refine HP3.out.mono ?_; rintro e w3 ⟨v, rfl, hr, hb⟩; rw [HE.out]; obtain ⟨A6, k6, rfl, _⟩ := hr; have HT3 := Lib.hid (Kd.R_below HT2.out hb); have HK3 := Lib.hid (HK2.out.below hb HK2.out.lt); have HB3 := Lib.hid (HB2.out.trans (hb.mono HB2.out.size)); clear hb)
      | (go_at_call 128; refine (nend_is HC.out HB3.out (Nat.le_refl _) HK3.out (E == 0)).mono ?_; rintro e w4 ⟨rfl, hg⟩; rw [HF.out]; have HB4 := Lib.hid (below_of_grown HB3.out hg (Nat.le_refl _)); clear hg))
    go_ret2
    exact ⟨.slice none 0 0, rfl, Kd.R_nil _ _ _ _ _, HB4.out⟩
end Go.Proofs.Ytmbnjgnmblgjoaa.Man
end

-- RefGetEnt
section
/- The reference's GetEntry. Printed by wip/tools/gen_refgetent.py. -/

namespace Go.Proofs.Ytmbnjgnmblgjoaa.Man
open Go.RowKit Go.Proofs.YtmbnjgnmblgjoaaW.PrintWords Go.Proofs.YtmbnjgnmblgjoaaW.PrintLast Go.Proofs.YtmbnjgnmblgjoaaW.PrintMore
set_option linter.unusedVariables false
set_option linter.unusedSimpArgs false
set_option maxRecDepth 100000

set_option maxHeartbeats 16000000 in
theorem rgetEntry_is (w : World) (A : Option Addr) (c : Nat) (b : List Int) (hC : Kd.C (Kd.int .u8) w A b.length b) (hc : b.length ≤ c) (hB : areBytesN b = true) (hl : b.length ≤ 140737488351232) :
    Calls Try.prog 65 #[.slice A b.length c] w fun e w' => ∃ r, e = .returned (.tuple #[r, .int .i64 (getEntryF b).2]) ∧ EntR w.heap.size (getEntryF b).1 r w' ∧ Below w.heap.size w w' := by
  obtain ⟨w1, hw1⟩ : ∃ w1, w1 = (w.alloc (.cells #[.int .i64 0, .int .i64 0, .int .i64 0, .int .i64 0, .int .i64 0, .int .i64 0, .int .i64 0, .int .i64 0, .slice none 0 0, .int .i64 0] 26)).alloc (.cells #[.slice A b.length c, .int .i64 0, .int .i64 0] 180) := ⟨_, rfl⟩
  have hb1 : Below w.heap.size w w1 := by rw [hw1]; exact ((Below.refl _ _).alloc (Nat.le_refl _) _).alloc (by simp) _
  have hz1 : w1.heap.size = w.heap.size + 2 := by rw [hw1, World.size_alloc, World.size_alloc]
  have hS1 : EntC w1 w.heap.size 0 0 0 0 0 0 0 0 (.slice none 0 0) 0 := by rw [hw1]; exact (Below.heap_alloc _ _ _ (by simp)).trans (World.alloc_heap_new w _)
  have hk1 : LeftAt w1 (w.heap.size + 1) A c b (b, 0) := ⟨0, Nat.zero_le _, rfl, by rw [hw1]; have := World.alloc_heap_new (w.alloc (.cells #[.int .i64 0, .int .i64 0, .int .i64 0, .int .i64 0, .int .i64 0, .int .i64 0, .int .i64 0, .int .i64 0, .slice none 0 0, .int .i64 0] 26)) (.cells #[.slice A b.length c, .int .i64 0, .int .i64 0] 180); rwa [World.size_alloc] at this⟩
  have hD := nent_is hC hc hB hl hb1 (Nat.le_succ _) hk1
  obtain ⟨he, hv⟩ := end_all K.z26 entryE (sim_ent b)
  rw [show allF K.z26 entryE (rent b) = getEntryF b from rfl] at he hv
  rw [← he, hv]
  obtain ⟨⟨x, st⟩, hst⟩ : ∃ p, nent (b, 0) = p := ⟨_, rfl⟩
  rw [hst] at hD ⊢
  simp only at hD ⊢
  have HD := Lib.hid hD
  have HC := Lib.hid hC
  have HB1 := Lib.hid hb1
  have HW1 := Lib.hid hw1
  have HZ1 := Lib.hid hz1
  have HS1 := Lib.hid hS1
  obtain ⟨E, hE⟩ : ∃ E, entryE x = E := ⟨_, rfl⟩
  rw [hE]
  have HE := Lib.hid hE
  obtain ⟨F, hF⟩ : ∃ F, nend st (E == 0) = F := ⟨_, rfl⟩
  rw [hF]
  have HF := Lib.hid hF
  clear hC hb1 hk1 hD he hv hst hw1 hz1 hE hF hS1
  go_enter Try.func65, Try.ntmps65
  go_upto_region 3 with (go_at_call 129; rw [← HW1.out]; refine HD.out.mono ?_; rintro e w2 ⟨r, rfl, ⟨u, rfl, ht⟩, hk, hg⟩; obtain ⟨A8, c8, rfl, l8, hC8⟩ := TR.C ht; have HT2 := Lib.hid (Kd.R_lower ht (Nat.le_of_eq HZ1.out.symm)); have HC8 := Lib.hid hC8; have HK2 := Lib.hid hk; have HG2 := Lib.hid hg; have HG2S : Hid (w1.heap.size ≤ w2.heap.size) := Lib.hid hg.size; clear hk hg ht hC8)
  obtain ⟨w3, hw3⟩ : ∃ w3, w2.alloc (entO x A8 c8) = w3 := ⟨_, rfl⟩
  have hb3 : Below w2.heap.size w2 w3 := by rw [← hw3]; exact (Below.refl _ _).alloc (Nat.le_refl _) _
  have hE3 : EntAt w3 w2.heap.size x A8 c8 := by rw [← hw3]; exact World.alloc_heap_new w2 _
  rw [hw3]
  have hg3 := HG2.out.trans (grown_of_below hb3 _)
  have HG3 := Lib.hid hg3
  have HK3 := Lib.hid (HK2.out.below hb3 HK2.out.lt)
  have HT3 := Lib.hid (Kd.R_below HT2.out hb3)
  have HE3 := Lib.hid hE3
  have HCK := Lib.hid (rcheck_is x A8 c8 w3 (Kd.C_below HC8.out hb3) l8)
  have HBW3 := Lib.hid (below_of_grown HB1.out hg3 (Nat.le_succ _))
  obtain ⟨q0, q1, q2, q3, q4, q5, q6, q7, q8, q9⟩ := hE3.c
  clear hw3 hb3 hE3 hg3 HW1 HD HK2 HT2 HG2
  go_upto_region 4 with (first
    | (go_at_call 107; refine HCK.out.mono ?_; rintro e w4 ⟨rfl, hb⟩; rw [HE.out]; have HT4 := Lib.hid (Kd.R_below HT3.out hb); have HK4 := Lib.hid (HK3.out.below hb HK3.out.lt); have HE4 : Hid (EntAt w4 w2.heap.size x A8 c8) := Lib.hid ((hb.block _ HE3.out.lt).trans HE3.out); have HG4 := Lib.hid (HG3.out.trans (grown_of_below hb _)); have HBW4 := Lib.hid (HBW3.out.trans (hb.mono HBW3.out.size)); clear hb)
    | (go_at_call 128; refine (nend_is HC.out HBW4.out (Nat.le_succ _) HK4.out (E == 0)).mono ?_; rintro e w5 ⟨rfl, hg⟩; rw [HF.out]; have HT5 := Lib.hid (TR.grown HT4.out hg (by omega)); have HE5 : Hid (EntAt w5 w2.heap.size x A8 c8) := Lib.hid ((hg.block _ HE4.out.lt (by intro e; have := Option.some.inj e; have := HZ1.out; have := HG2S.out; omega)).trans HE4.out); have HG5 := Lib.hid (HG4.out.trans hg); have HB5 := Lib.hid (below_of_grown HBW4.out hg (Nat.le_succ _)); clear hg))
  clear q0 q1 q2 q3 q4 q5 q6 q7 q8 q9
  have HS5 : Hid (EntC w5 w.heap.size 0 0 0 0 0 0 0 0 (.slice none 0 0) 0) := Lib.hid (HS1.out.ne (HG5.out.block _ HS1.out.lt (by intro e; have := Option.some.inj e; omega)))
  obtain ⟨q0, q1, q2, q3, q4, q5, q6, q7, q8, q9⟩ := HE5.out.c
  obtain ⟨s0, s1, s2, s3, s4, s5, s6, s7, s8, s9⟩ := HS5.out.cells
  have sf := HS5.out.f
  by_cases h0 : F = 0
  · have t0 : (F != 0) = false := by simpa using h0
    go_wp2
    obtain ⟨z0, z1, z2, z3, z4, z5, z6, z7, z8, z9⟩ := (HS5.out.set x.f0 x.f1 x.f2.f0 x.f2.f1 x.f2.f2 x.f2.f3 x.f2.f4 x.f2.f5 (.slice A8 x.f2.f6.length c8) x.f2.f7).cells
    unfold setEnt at z0 z1 z2 z3 z4 z5 z6 z7 z8 z9
    refine bodyPost_ret (v := .tuple #[.agg #[.int .i64 x.f0, .int .i64 x.f1, .int .i64 x.f2.f0, .int .i64 x.f2.f1, .int .i64 x.f2.f2, .int .i64 x.f2.f3, .int .i64 x.f2.f4, .int .i64 x.f2.f5, .slice A8 x.f2.f6.length c8, .int .i64 x.f2.f7], .int .i64 0]) (by simp [results, Try.results65, go_sem, z0, z1, z2, z3, z4, z5, z6, z7, z8, z9]) rfl ?_
    subst h0
    exact ⟨_, rfl, ⟨_, rfl, Kd.R_lower (HT5.out.setEnt (E := w.heap.size) (by omega) _ _ _ _ _ _ _ _ _ _) (by omega)⟩, below_setEnt HB5.out w.heap.size (Nat.le_refl _) x.f0 x.f1 x.f2.f0 x.f2.f1 x.f2.f2 x.f2.f3 x.f2.f4 x.f2.f5 (.slice A8 x.f2.f6.length c8) x.f2.f7⟩
  · have t0 : (F != 0) = true := by simpa using h0
    go_wp2
    obtain ⟨z0, z1, z2, z3, z4, z5, z6, z7, z8, z9⟩ := (HS5.out.set 0 0 0 0 0 0 0 0 (.slice none 0 0) 0).cells
    unfold setEnt at z0 z1 z2 z3 z4 z5 z6 z7 z8 z9
    refine bodyPost_ret (v := .tuple #[.agg #[.int .i64 0, .int .i64 0, .int .i64 0, .int .i64 0, .int .i64 0, .int .i64 0, .int .i64 0, .int .i64 0, .slice none 0 0, .int .i64 0], .int .i64 F]) (by simp [results, Try.results65, go_sem, z0, z1, z2, z3, z4, z5, z6, z7, z8, z9]) rfl ?_
    exact ⟨_, rfl, ⟨_, rfl, Kd.R_nil _ _ _ _ _⟩, below_setEnt HB5.out w.heap.size (Nat.le_refl _) 0 0 0 0 0 0 0 0 (.slice none 0 0) 0⟩
end Go.Proofs.Ytmbnjgnmblgjoaa.Man
end

-- RefMsgSim
section
/- The reference's reading of a message, over lists; what a reading of it stands at. -/

namespace Go.Proofs.Ytmbnjgnmblgjoaa.Man
open Go.RowKit Go.Proofs.YtmbnjgnmblgjoaaW.PrintWords Go.Proofs.YtmbnjgnmblgjoaaW.PrintLast Go.Proofs.YtmbnjgnmblgjoaaW.PrintMore
set_option linter.unusedVariables false
set_option linter.unusedSimpArgs false

def nents : Nat → Left → List K.S26 × Left
  | 0, s => ([], s)
  | n + 1, s => if s.2 = 0 then ((nent s).1 :: (nents n (nent s).2).1, (nents n (nent s).2).2) else ([], s)
theorem nents_stop (n : Nat) (s : Left) (h : s.2 ≠ 0) : nents n s = ([], s) := by
  cases n with
  | zero => rfl
  | succ n => rw [nents, if_neg h]
theorem sim_ents : ∀ (n : Nat) (l : List Int), Sim (rents n l) (nents n (l, 0))
  | 0, l => rfl
  | n + 1, l => by
    rw [rents, nents, if_pos rfl]
    refine Sim.bnd (g := fun (x : K.S26) (s : Left) => (x :: (nents n s).1, (nents n s).2)) (sim_ent l) (fun x l _ => ?_) (fun x s h => by simp only [nents_stop n s h])
    exact Sim.bnd (g := fun (xs : List K.S26) (s : Left) => (x :: xs, s)) (sim_ents n l) (fun _ _ _ => rfl) (fun _ _ _ => rfl)
def nmsg (s : Left) : MsgL × Left :=
  match nnum most s with | (k, s) => match nnum most s with | (who, s) => match nnum most s with | (ver, s) => match nnum 1024 s with | (n, s) => match nents n.toNat s with | (xs, s) => (⟨k, who, ver, xs⟩, s)
theorem sim_msg (l : List Int) : Sim (rmsg l) (nmsg (l, 0)) := by
  unfold rmsg
  refine Sim.bnd (g := fun (k : Int) (s : Left) => match nnum most s with | (who, s) => match nnum most s with | (ver, s) => match nnum 1024 s with | (n, s) => match nents n.toNat s with | (xs, s) => (MsgL.mk k who ver xs, s)) (sim_num most l) (fun k l _ => ?_) (fun _ s h => by simp only [num_stuck most s h, num_stuck 1024 s h, nents_stop _ s h])
  refine Sim.bnd (g := fun (who : Int) (s : Left) => match nnum most s with | (ver, s) => match nnum 1024 s with | (n, s) => match nents n.toNat s with | (xs, s) => (MsgL.mk k who ver xs, s)) (sim_num most l) (fun who l _ => ?_) (fun _ s h => by simp only [num_stuck most s h, num_stuck 1024 s h, nents_stop _ s h])
  refine Sim.bnd (g := fun (ver : Int) (s : Left) => match nnum 1024 s with | (n, s) => match nents n.toNat s with | (xs, s) => (MsgL.mk k who ver xs, s)) (sim_num most l) (fun ver l _ => ?_) (fun _ s h => by simp only [num_stuck most s h, num_stuck 1024 s h, nents_stop _ s h])
  refine Sim.bnd (g := fun (n : Int) (s : Left) => match nents n.toNat s with | (xs, s) => (MsgL.mk k who ver xs, s)) (sim_num 1024 l) (fun n l _ => ?_) (fun _ s h => by simp only [nents_stop _ s h])
  exact Sim.bnd (g := fun (xs : List K.S26) (s : Left) => (MsgL.mk k who ver xs, s)) (sim_ents n.toNat l) (fun _ _ _ => rfl) (fun _ _ _ => rfl)
/-- What a reading of a message stands at: the result's block, the reader, the message. -/
structure RmS (w W : World) (A : Option Addr) (c : Nat) (b : List Int) (s : Left) (a0 a1 a2 : Int) (v : Value) : Prop where
  left : LeftAt W (w.heap.size + 1) A c b s
  msg : MsgC W (w.heap.size + 2) a0 a1 a2 v
  res : MsgC W w.heap.size 0 0 0 (.slice none 0 0)
  bel : Below w.heap.size w W
  sz : w.heap.size + 3 ≤ W.heap.size
section
variable {w W W' : World} {c : Nat} {A : Option Addr} {b : List Int} {s s' : Left} {a0 a1 a2 b0 b1 b2 : Int} {v v' : Value}
theorem RmS.num (h : RmS w W A c b s a0 a1 a2 v) (hk : LeftAt W' (w.heap.size + 1) A c b s') (hg : W.grownBy W' (some (w.heap.size + 1))) : RmS w W' A c b s' a0 a1 a2 v :=
  ⟨hk, h.msg.ne (hg.block _ h.msg.lt (by intro e; have := Option.some.inj e; omega)), h.res.ne (hg.block _ h.res.lt (by intro e; have := Option.some.inj e; omega)), below_of_grown h.bel hg (Nat.le_succ _), Nat.le_trans h.sz hg.size⟩
theorem RmS.put (h : RmS w W A c b s a0 a1 a2 v) (i : Nat) (u : Value) (he : (#[.int .i64 a0, .int .i64 a1, .int .i64 a2, v] : Array Value).setIfInBounds i u = #[.int .i64 b0, .int .i64 b1, .int .i64 b2, v']) : RmS w (W.setCell ⟨w.heap.size + 2, i, none⟩ u) A c b s b0 b1 b2 v' :=
  ⟨h.left.onB (heap_set_ne W _ i _ u (by omega)), h.msg.put i u he, h.res.ne (heap_set_ne W _ i _ u (by omega)), below_set_young h.bel _ i u (by omega), by have := h.sz; simpa [World.setCell] using this⟩
theorem RmS.onB (h : RmS w W A c b s a0 a1 a2 v) (hb : Below (w.heap.size + 3) W W') : RmS w W' A c b s a0 a1 a2 v :=
  ⟨h.left.onB (hb.block _ (by omega)), h.msg.ne (hb.block _ (by omega)), h.res.ne (hb.block _ (by omega)), h.bel.trans (hb.mono (by omega)), Nat.le_trans h.sz hb.size⟩
theorem RmS.below (h : RmS w W A c b s a0 a1 a2 v) (hb : Below W.heap.size W W') : RmS w W' A c b s a0 a1 a2 v := h.onB (hb.mono h.sz)
end
end Go.Proofs.Ytmbnjgnmblgjoaa.Man
end

-- RefGetMsg
section
/- The reference's GetMsg. Printed by wip/tools/gen_refgetmsg.py. -/

namespace Go.Proofs.Ytmbnjgnmblgjoaa.Man
open Go.RowKit Go.Proofs.YtmbnjgnmblgjoaaW.PrintWords Go.Proofs.YtmbnjgnmblgjoaaW.PrintLast Go.Proofs.YtmbnjgnmblgjoaaW.PrintMore
set_option linter.unusedVariables false
set_option linter.unusedSimpArgs false
set_option maxRecDepth 100000
def rmsgR10.T : Bool × List (List Nat × List Nat) := (true, [([], []), ([0], [0]), ([], []), ([2], [2]), ([3], [3]), ([1, 4, 3], [1, 4]), ([0, 1, 2, 3, 4, 5], []), ([6, 5, 5, 0, 1, 2, 3, 4, 5], [5, 6])])
def rmsgR10.B : List Nat := [0, 1, 0, 4, 12, 31, 63, 127]
theorem rmsgR10.tab : rtab .any (opsOf Try.f67 10) = rmsgR10.T := by kernel_rfl
theorem rmsgR10.bits : waitsOk rmsgR10.T.2 rmsgR10.B = true := by kernel_rfl

set_option maxHeartbeats 32000000 in
theorem rgetMsg_is (w : World) (A : Option Addr) (c : Nat) (b : List Int) (hC : Kd.C (Kd.int .u8) w A b.length b) (hc : b.length ≤ c) (hB : areBytesN b = true) (hl : b.length ≤ 140737488351232) :
    Calls Try.prog 67 #[.slice A b.length c] w fun e w' => ∃ r, e = .returned (.tuple #[r, .int .i64 (getMsgF b).2]) ∧ MsgR w.heap.size (getMsgF b).1 r w' ∧ Below w.heap.size w w' := by
  have HG0 := Lib.hid (fun (W : World) (hb : Below w.heap.size w W) (top : Int) (t : Left) (ht0 : 0 ≤ top) (ht1 : top ≤ 2147483647) (hk : LeftAt W (w.heap.size + 1) A c b t) => nnum_is hk (Kd.C_below hC hb) hc hB hl top ht0 ht1)
  have HN0 := Lib.hid (fun (W : World) (hb : Below w.heap.size w W) (t : Left) (hk : LeftAt W (w.heap.size + 1) A c b t) => nent_is hC hc hB hl hb (Nat.le_succ _) hk)
  obtain ⟨w1, hw1⟩ : ∃ w1, w1 = ((w.alloc (.cells #[.int .i64 0, .int .i64 0, .int .i64 0, .slice none 0 0] 71)).alloc (.cells #[.slice A b.length c, .int .i64 0, .int .i64 0] 180)).alloc (.cells #[.int .i64 0, .int .i64 0, .int .i64 0, .slice none 0 0] 71) := ⟨_, rfl⟩
  have hb1 : Below w.heap.size w w1 := by rw [hw1]; exact (((Below.refl _ _).alloc (Nat.le_refl _) _).alloc (by simp) _).alloc (by simp; omega) _
  have hE1 : RmS w w1 A c b (b, 0) 0 0 0 (.slice none 0 0) := by
    have e0 := World.alloc_heap_new w (.cells #[.int .i64 0, .int .i64 0, .int .i64 0, .slice none 0 0] 71)
    have e1 := World.alloc_heap_new (w.alloc (.cells #[.int .i64 0, .int .i64 0, .int .i64 0, .slice none 0 0] 71)) (.cells #[.slice A b.length c, .int .i64 0, .int .i64 0] 180)
    have e2 := World.alloc_heap_new ((w.alloc (.cells #[.int .i64 0, .int .i64 0, .int .i64 0, .slice none 0 0] 71)).alloc (.cells #[.slice A b.length c, .int .i64 0, .int .i64 0] 180)) (.cells #[.int .i64 0, .int .i64 0, .int .i64 0, .slice none 0 0] 71)
    rw [World.size_alloc, World.size_alloc] at e2
    rw [World.size_alloc] at e1
    refine ⟨⟨0, Nat.zero_le _, rfl, ?_⟩, by rw [hw1]; exact e2, ?_, hb1, by rw [hw1]; simp⟩
    · rw [hw1]; exact (Below.heap_alloc _ _ _ (by simp)).trans e1
    · rw [hw1]; exact (Below.heap_alloc _ _ _ (by simp; omega)).trans ((Below.heap_alloc _ _ _ (by simp)).trans e0)
  obtain ⟨he, hv⟩ := end_all zMsg msgE (sim_msg b)
  rw [show allF zMsg msgE (rmsg b) = getMsgF b from rfl] at he hv
  rw [← he, hv]
  obtain ⟨⟨m, st⟩, hst⟩ : ∃ p, nmsg (b, 0) = p := ⟨_, rfl⟩
  rw [hst]
  simp only
  have hX := hst
  unfold nmsg at hX
  obtain ⟨⟨k, s1⟩, h1⟩ : ∃ p, nnum most (b, 0) = p := ⟨_, rfl⟩
  obtain ⟨⟨who, s2⟩, h2⟩ : ∃ p, nnum most s1 = p := ⟨_, rfl⟩
  obtain ⟨⟨ver, s3⟩, h3⟩ : ∃ p, nnum most s2 = p := ⟨_, rfl⟩
  obtain ⟨⟨n, s4⟩, h4⟩ : ∃ p, nnum 1024 s3 = p := ⟨_, rfl⟩
  have hr := nnum_range 1024 s3 (by decide)
  rw [h4] at hr
  simp only at hr
  obtain ⟨N, rfl⟩ : ∃ N : Nat, n = (N : Int) := ⟨n.toNat, by omega⟩
  simp only [h1, h2, h3, h4, Int.toNat_natCast] at hX
  have HX : Hid ((m, st) = (MsgL.mk k who ver (nents N s4).1, (nents N s4).2)) := Lib.hid hX.symm
  have hN : N ≤ 1024 := by omega
  have H1 := Lib.hid h1
  have H2 := Lib.hid h2
  have H3 := Lib.hid h3
  have H4 := Lib.hid h4
  have HC := Lib.hid hC
  have HE1 := Lib.hid hE1
  have HW1 := Lib.hid hw1
  obtain ⟨E, hE⟩ : ∃ E, msgE m = E := ⟨_, rfl⟩
  rw [hE]
  have HE := Lib.hid hE
  obtain ⟨F, hF⟩ : ∃ F, nend st (E == 0) = F := ⟨_, rfl⟩
  rw [hF]
  have HF := Lib.hid hF
  clear hC hB hX h1 h2 h3 h4 hb1 hE1 hw1 he hv hst hr hE hF
  go_enter Try.func67, Try.ntmps67
  go_upto_region 3 with (fail)
  rw [← HW1.out]
  clear HW1
  have hN := HG0.out _ HE1.out.bel most (b, 0) (by decide) (by decide) HE1.out.left
  rw [H1.out] at hN
  unfold most at hN
  have HN := Lib.hid hN
  clear hN
  go_upto_region 4 with (go_at_call 133; refine HN.out.mono ?_; rintro e v1 ⟨rfl, hk, hg⟩; have HF1 := Lib.hid (HE1.out.num hk hg); have hff := HF1.out.msg.f 0; obtain ⟨q0, q1, q2, q3⟩ := HF1.out.msg.cells; clear hk hg)
  clear q0 q1 q2 q3 hff HN
  have HE2 : Hid (RmS w (v1.setCell ⟨w.heap.size + 2, 0, none⟩ (.int .i64 k)) A c b s1 k 0 0 (.slice none 0 0)) := Lib.hid (HF1.out.put 0 (.int .i64 k) rfl)
  obtain ⟨x1_, hx1_⟩ : ∃ q, (v1.setCell ⟨w.heap.size + 2, 0, none⟩ (.int .i64 k)) = q := ⟨_, rfl⟩
  rw [hx1_] at HE2 ⊢
  clear hx1_ HE1 HF1
  have hN := HG0.out _ HE2.out.bel most s1 (by decide) (by decide) HE2.out.left
  rw [H2.out] at hN
  unfold most at hN
  have HN := Lib.hid hN
  clear hN
  go_upto_region 5 with (go_at_call 133; refine HN.out.mono ?_; rintro e v2 ⟨rfl, hk, hg⟩; have HF2 := Lib.hid (HE2.out.num hk hg); have hff := HF2.out.msg.f 1; obtain ⟨q0, q1, q2, q3⟩ := HF2.out.msg.cells; clear hk hg)
  clear q0 q1 q2 q3 hff HN
  have HE3 : Hid (RmS w (v2.setCell ⟨w.heap.size + 2, 1, none⟩ (.int .i64 who)) A c b s2 k who 0 (.slice none 0 0)) := Lib.hid (HF2.out.put 1 (.int .i64 who) rfl)
  obtain ⟨x2_, hx2_⟩ : ∃ q, (v2.setCell ⟨w.heap.size + 2, 1, none⟩ (.int .i64 who)) = q := ⟨_, rfl⟩
  rw [hx2_] at HE3 ⊢
  clear hx2_ HE2 HF2
  have hN := HG0.out _ HE3.out.bel most s2 (by decide) (by decide) HE3.out.left
  rw [H3.out] at hN
  unfold most at hN
  have HN := Lib.hid hN
  clear hN
  go_upto_region 6 with (go_at_call 133; refine HN.out.mono ?_; rintro e v3 ⟨rfl, hk, hg⟩; have HF3 := Lib.hid (HE3.out.num hk hg); have hff := HF3.out.msg.f 2; obtain ⟨q0, q1, q2, q3⟩ := HF3.out.msg.cells; clear hk hg)
  clear q0 q1 q2 q3 hff HN
  have HE4 : Hid (RmS w (v3.setCell ⟨w.heap.size + 2, 2, none⟩ (.int .i64 ver)) A c b s3 k who ver (.slice none 0 0)) := Lib.hid (HF3.out.put 2 (.int .i64 ver) rfl)
  obtain ⟨x3_, hx3_⟩ : ∃ q, (v3.setCell ⟨w.heap.size + 2, 2, none⟩ (.int .i64 ver)) = q := ⟨_, rfl⟩
  rw [hx3_] at HE4 ⊢
  clear hx3_ HE3 HF3
  have hN4 := HG0.out _ HE4.out.bel 1024 s3 (by decide) (by decide) HE4.out.left
  rw [H4.out] at hN4
  have HN := Lib.hid hN4
  clear hN4
  go_wp2_with (go_at_call 133; refine HN.out.mono ?_; rintro e v4 ⟨rfl, hk, hg⟩; have HE5 := Lib.hid (HE4.out.num hk hg); clear hk hg)
  go_loopg [7] N (fun g s7 wr => ∃ (i : Nat) (v : Value) (ys : List K.S26) (t : Left), s7 = .int .i64 i ∧ i ≤ N ∧ g = N - i ∧ ys.length = i ∧ Hid ((m, st) = (MsgL.mk k who ver (ys ++ (nents (N - i) t).1), (nents (N - i) t).2)) ∧ Hid (RmS w wr A c b t k who ver v) ∧ Hid (ER wr (w.heap.size + 3) v ys))
  case atStart => exact ⟨0, _, [], s4, rfl, Nat.zero_le _, rfl, rfl, Lib.hid (by rw [HX.out, Nat.sub_zero, List.nil_append]), HE5, Lib.hid (Kd.R_nil _ _ _ _ _)⟩
  case round =>
    clear HX HE5 HE4 HN
    obtain ⟨i, v, ys, t, rfl, hi, hg, hyl, HXR, HR, HED0⟩ := hrel
    have r2 := HR.out.left.c2
    by_cases hlt : i < N
    · by_cases h0 : t.2 = 0
      · obtain ⟨d, hd⟩ : ∃ d, N - i = d + 1 := ⟨N - i - 1, by omega⟩
        have hd2 : N - (i + 1) = d := by omega
        have t0 : (t.2 == 0) = true := by simpa using h0
        have hX := HXR.out
        rw [hd, nents, if_pos h0] at hX
        obtain ⟨⟨x, t2⟩, hx⟩ : ∃ p, nent t = p := ⟨_, rfl⟩
        rw [hx] at hX
        simp only at hX
        have HXS : Hid ((m, st) = (MsgL.mk k who ver ((ys ++ [x]) ++ (nents (N - (i + 1)) t2).1), (nents (N - (i + 1)) t2).2)) := Lib.hid (by rw [hX, hd2, List.append_assoc]; rfl)
        have HD := Lib.hid (HR.out.below (below_drew1 (Below.refl wr.heap.size wr)))
        have HED := Lib.hid (ER.grown HED0.out (grown_of_below (below_drew1 (Below.refl wr.heap.size wr)) (some (w.heap.size + 1))) (by omega))
        have hcall := HN0.out _ HD.out.bel t HD.out.left
        rw [hx] at hcall
        have HRZ : Hid (w.heap.size + 3 ≤ wr.drew.heap.size) := Lib.hid HD.out.sz
        clear hX hx hd hd2
        go_upto_region 10 with (fail)
        refine start_ (n := 8) (S := fun w' => w'.cell? ⟨w.heap.size + 2, 3, none⟩ = some v) (ds := [7]) #[false, false, false, false, false, false, false, false] (by kernel_rfl) rfl rfl HD.out.msg.cells.2.2.2 (fun hHeld => ?_); refine with_tabW rmsgR10.tab rmsgR10.bits (fun HT_ HW_ => ?_)
        refine pure_ (i := 0) (N := (some 36)) (v := ?_) (a' := ?_) #[true, false, false, false, false, false, false, false] rfl rfl (any_of HT_.out (by kernel_rfl)) (fun _ _ _ h => h) (Or.inl ⟨by rfl, ?_⟩) ?_ ?_
        rotate_left
        · intro w'
          go_simp
          with_reducible rfl
        rotate_left
        · simp only [Act.put, List.setIfInBounds_toArray, List.set_cons_zero, List.set_cons_succ, i64_w, i32_w]
          rfl
        refine pure_ (i := 2) (N := (some 38)) (v := ?_) (a' := ?_) #[true, false, true, false, false, false, false, false] rfl rfl (any_of HT_.out (by kernel_rfl)) (fun _ _ _ h => h) (Or.inl ⟨by rfl, ?_⟩) ?_ ?_
        rotate_left
        · intro w'
          go_simp
          with_reducible rfl
        rotate_left
        · simp only [Act.put, List.setIfInBounds_toArray, List.set_cons_zero, List.set_cons_succ, i64_w, i32_w]
          rfl
        refine take_ (i := 1) (N := (some 37)) (v := ?_) (a' := ?_) #[true, true, true, false, false, false, false, false] rfl rfl (take_ofW HT_.out HW_.out (by kernel_rfl)) (fun _ _ _ h => h) (Or.inl ⟨by rfl, ?_⟩) hHeld ?_ ?_
        rotate_left
        · rintro w' s0
          go_simp
          with_reducible rfl
        rotate_left
        · simp only [Act.put, List.setIfInBounds_toArray, List.set_cons_zero, List.set_cons_succ, i64_w, i32_w]
          rfl
        refine one_ (i := 3) (N := (some 39)) #[true, true, true, true, false, false, false, false] rfl rfl (one_of HT_.out (by kernel_rfl)) (by decide) (fun K hK => ?_)
        refine goes_ Try.func129 (by kernel_rfl) rfl #[.pointer (some ⟨w.heap.size + 1, 0, none⟩)] (by rfl) rfl rfl (by (try simp only [List.map_toArray, List.map_cons, List.map_nil]); first | done | rfl) ?_
        refine hcall.mono ?_
        rintro e w3 ⟨r, rfl, ⟨u, rfl, ht⟩, hk, hg⟩
        obtain ⟨Au, cu, rfl, _, _⟩ := TR.C ht
        have HE3 := Lib.hid (HD.out.num hk hg)
        have HT3 := Lib.hid ht
        have HL3 := Lib.hid (ER.grown HED.out hg (by omega))
        have HZ3 := Lib.hid hg.size
        clear hcall hk hg ht
        refine ⟨_, rfl, ?_⟩
        refine hK.out _ _ HE3.out.msg.cells.2.2.2 (fun hHeld => ?_)
        clear hK K
        refine norm_ (a' := ?_) ?_ ?_
        rotate_left
        · show Act.put _ (some 39) _ = _
          simp only [Act.put, List.setIfInBounds_toArray, List.set_cons_zero, List.set_cons_succ, i64_w, i32_w]
          rfl
        refine one_ (i := 4) (N := (some 40)) #[true, true, true, true, true, false, false, false] rfl rfl (one_of HT_.out (by kernel_rfl)) (by decide) (fun K hK => ?_)
        refine value_ (w1 := w3.alloc (.cells #[.int .i64 x.f0, .int .i64 x.f1, .int .i64 x.f2.f0, .int .i64 x.f2.f1, .int .i64 x.f2.f2, .int .i64 x.f2.f3, .int .i64 x.f2.f4, .int .i64 x.f2.f5, .slice Au x.f2.f6.length cu, .int .i64 x.f2.f7] 26)) (v := .slice (some ⟨w3.heap.size, 0, none⟩) 1 1) (by rfl) rfl ?_ ?_
        · go_simp
          try rfl
        have hbx : Below w3.heap.size w3 (w3.alloc (.cells #[.int .i64 x.f0, .int .i64 x.f1, .int .i64 x.f2.f0, .int .i64 x.f2.f1, .int .i64 x.f2.f2, .int .i64 x.f2.f3, .int .i64 x.f2.f4, .int .i64 x.f2.f5, .slice Au x.f2.f6.length cu, .int .i64 x.f2.f7] 26)) := (Below.refl _ _).alloc (Nat.le_refl _) _
        have HE4 := Lib.hid (HE3.out.below hbx)
        clear hbx
        refine hK.out _ _ HE4.out.msg.cells.2.2.2 (fun hHeld => ?_)
        clear hK K
        refine norm_ (a' := ?_) ?_ ?_
        rotate_left
        · show Act.put _ (some 40) _ = _
          simp only [Act.put, List.setIfInBounds_toArray, List.set_cons_zero, List.set_cons_succ, i64_w, i32_w]
          rfl
        refine one_ (i := 5) (N := (some 41)) #[true, true, true, true, true, true, false, false] rfl rfl (one_of HT_.out (by kernel_rfl)) (by decide) (fun K hK => ?_)
        refine Kd.R_append_step Go.Proofs.Ytmbnjgnmblgjoaa.K.k26 (w0 := w3) (W := w3) (w.heap.size + 3) (by rfl) (.tmp 37) (.tmp 40) 69 26 (.agg #[.int .i64 0, .int .i64 0, .int .i64 0, .int .i64 0, .int .i64 0, .int .i64 0, .int .i64 0, .int .i64 0, .slice none 0 0, .int .i64 0]) 96 rfl Try.underlying69 info_ent rfl (by decide) (by decide) v ys x [.int .i64 x.f0, .int .i64 x.f1, .int .i64 x.f2.f0, .int .i64 x.f2.f1, .int .i64 x.f2.f2, .int .i64 x.f2.f3, .int .i64 x.f2.f4, .int .i64 x.f2.f5, .slice Au x.f2.f6.length cu, .int .i64 x.f2.f7] (fun _ => True) (fun j => some j = (Value.slice Au x.f2.f6.length cu).ownBlock) rfl rfl (Go.Proofs.Ytmbnjgnmblgjoaa.K.k26_mkM _ _ _ _ (TR.tight (Kd.R_lower HT3.out HRZ.out))) ?_ (fun _ _ => trivial) HL3.out (Below.refl _ _) (by have := HZ3.out; have := HRZ.out; omega) (by omega) ?_
        · intro j hj
          refine ⟨trivial, fun e => ?_⟩
          have h1 := ER.lt HED.out e.symm
          have h2 := TR.ge HT3.out hj.symm
          omega
        intro v4 w4 hr4 hb4 hg4 hat4
        obtain ⟨zs, hzs⟩ : ∃ zs, ys ++ [x] = zs := ⟨_, rfl⟩
        rw [hzs] at hr4
        have HXN : Hid ((m, st) = (MsgL.mk k who ver (zs ++ (nents (N - (i + 1)) t2).1), (nents (N - (i + 1)) t2).2)) := Lib.hid (by rw [HXS.out, ← hzs])
        have hzl : zs.length = i + 1 := by rw [← hzs, List.length_append, hyl]; rfl
        obtain ⟨A5, k5, rfl, _, _⟩ := ER.C hr4
        have HZL := Lib.hid hzl
        clear hzs hzl
        have HE5 := Lib.hid (HE3.out.onB hb4)
        have HL5 := Lib.hid hr4
        clear hr4 hb4 hg4 hat4
        refine hK.out _ _ HE5.out.msg.cells.2.2.2 (fun hHeld => ?_)
        clear hK K
        refine norm_ (a' := ?_) ?_ ?_
        rotate_left
        · show Act.put _ (some 41) _ = _
          simp only [Act.put, List.setIfInBounds_toArray, List.set_cons_zero, List.set_cons_succ, i64_w, i32_w]
          rfl
        refine pure_ (i := 6) (N := (some 42)) (v := ?_) (a' := ?_) #[true, true, true, true, true, true, true, false] rfl rfl (any_of HT_.out (by kernel_rfl)) (fun _ _ _ h => h) (Or.inl ⟨by rfl, ?_⟩) ?_ ?_
        rotate_left
        · intro w'
          go_simp
          with_reducible rfl
        rotate_left
        · simp only [Act.put, List.setIfInBounds_toArray, List.set_cons_zero, List.set_cons_succ, i64_w, i32_w]
          rfl
        refine last_ (i := 7) (N := none) #[true, true, true, true, true, true, true, true] rfl rfl (one_of HT_.out (by kernel_rfl)) (by decide) (fun K hK => ?_)
        have hcc := HE5.out.msg.cells.2.2.2
        have hff := HE5.out.msg.f 3
        refine skip_ (w1 := w4.setCell ⟨w.heap.size + 2, 3, none⟩ (.slice A5 zs.length k5)) (by rfl) rfl ?_ ?_
        · go_simp
          try rfl
        have HE6 : Hid (RmS w (w4.setCell ⟨w.heap.size + 2, 3, none⟩ (.slice A5 zs.length k5)) A c b t2 k who ver (.slice A5 zs.length k5)) := Lib.hid (HE5.out.put 3 (.slice A5 zs.length k5) rfl)
        have HL6 := Lib.hid (ER.set HL5.out (E := w.heap.size + 2) (by omega) 3 (.slice A5 zs.length k5))
        clear hcc hff HE3 HE4 HE5 HL3 HL5 HT3
        refine hK.out _ _ ?_
        clear hK K
        refine done_ (done_of HT_.out (by kernel_rfl)) ?_
        clear HXR HR HED0 HD HED HXS
        go_wp2
        go_roundg (N - (i + 1))
        case measure => omega
        case rel => exact ⟨i + 1, _, zs, t2, by go_num, by omega, rfl, HZL.out, HXN, HE6, HL6⟩
      · have hXX := HXR.out
        rw [nents_stop _ _ h0, List.append_nil] at hXX
        have t0 : (t.2 == 0) = false := by simpa using h0
        clear HXR
        simp only [Prod.mk.injEq] at hXX
        obtain ⟨hm, hst⟩ := hXX
        obtain ⟨A7, k7, rfl, l7, hC7⟩ := ER.C HED0.out
        have hM := rmessage_is (MsgL.mk k who ver ys) A7 k7 wr hC7 l7
        have HYL := Lib.hid hyl
        clear hyl
        unfold msgV at hM
        simp only at hM
        rw [← hm, HE.out] at hM
        subst hst
        have HM := Lib.hid hM
        have HMM := Lib.hid hm
        obtain ⟨q0, q1, q2, q3⟩ := HR.out.msg.cells
        clear hM hm hC7
        go_upto_region 12 with (first
          | (go_at_call 111; refine HM.out.mono ?_; rintro e w5 ⟨rfl, hb⟩; have HR5 := Lib.hid (HR.out.below hb); have HL5 := Lib.hid (Kd.R_below HED0.out hb); clear hb)
          | (go_at_call 128; refine (nend_is HC.out HR5.out.bel (Nat.le_succ _) HR5.out.left (E == 0)).mono ?_; rintro e w6 ⟨rfl, hg⟩; rw [HF.out]; have HL6 := Lib.hid (ER.grown HL5.out hg (by omega)); have HB6 := Lib.hid (below_of_grown HR5.out.bel hg (Nat.le_succ _)); have HM6 : Hid (MsgC w6 (w.heap.size + 2) k who ver (.slice A7 ys.length k7)) := Lib.hid (HR5.out.msg.ne (hg.block _ HR5.out.msg.lt (by intro e; have := Option.some.inj e; omega))); have HS6 : Hid (MsgC w6 w.heap.size 0 0 0 (.slice none 0 0)) := Lib.hid (HR5.out.res.ne (hg.block _ HR5.out.res.lt (by intro e; have := Option.some.inj e; omega))); clear hg))
        clear q0 q1 q2 q3
        obtain ⟨q0, q1, q2, q3⟩ := HM6.out.cells
        obtain ⟨s0, s1, s2, s3⟩ := HS6.out.cells
        have sf := HS6.out.f
        by_cases hF0 : F = 0
        · have t0 : (F != 0) = false := by simpa using hF0
          go_wp2
          obtain ⟨z0, z1, z2, z3⟩ := (HS6.out.set k who ver (.slice A7 ys.length k7)).cells
          unfold setMsg at z0 z1 z2 z3
          refine bodyPost_ret (v := .tuple #[.agg #[.int .i64 k, .int .i64 who, .int .i64 ver, .slice A7 ys.length k7], .int .i64 0]) (by simp [results, Try.results67, go_sem, z0, z1, z2, z3]) rfl ?_
          subst hF0
          refine ⟨_, rfl, ?_, below_setMsg HB6.out w.heap.size (Nat.le_refl _) k who ver (.slice A7 ys.length k7)⟩
          rw [HMM.out]
          exact ⟨_, rfl, Kd.R_lower (HL6.out.setMsg (E := w.heap.size) (by omega) _ _ _ _) (by omega)⟩
        · have t0 : (F != 0) = true := by simpa using hF0
          go_wp2
          obtain ⟨z0, z1, z2, z3⟩ := (HS6.out.set 0 0 0 (.slice none 0 0)).cells
          unfold setMsg at z0 z1 z2 z3
          refine bodyPost_ret (v := .tuple #[.agg #[.int .i64 0, .int .i64 0, .int .i64 0, .slice none 0 0], .int .i64 F]) (by simp [results, Try.results67, go_sem, z0, z1, z2, z3]) rfl ?_
          exact ⟨_, rfl, ⟨_, rfl, Kd.R_nil _ _ _ _ _⟩, below_setMsg HB6.out w.heap.size (Nat.le_refl _) 0 0 0 (.slice none 0 0)⟩
    · obtain rfl : i = N := by omega
      have hXX := HXR.out
      rw [Nat.sub_self, nents, List.append_nil] at hXX
      clear HXR
      simp only [Prod.mk.injEq] at hXX
      obtain ⟨hm, hst⟩ := hXX
      obtain ⟨A7, k7, rfl, l7, hC7⟩ := ER.C HED0.out
      have hM := rmessage_is (MsgL.mk k who ver ys) A7 k7 wr hC7 l7
      have HYL := Lib.hid hyl
      clear hyl
      unfold msgV at hM
      simp only at hM
      rw [← hm, HE.out] at hM
      subst hst
      have HM := Lib.hid hM
      have HMM := Lib.hid hm
      obtain ⟨q0, q1, q2, q3⟩ := HR.out.msg.cells
      clear hM hm hC7
      go_upto_region 12 with (first
        | (go_at_call 111; refine HM.out.mono ?_; rintro e w5 ⟨rfl, hb⟩; have HR5 := Lib.hid (HR.out.below hb); have HL5 := Lib.hid (Kd.R_below HED0.out hb); clear hb)
        | (go_at_call 128; refine (nend_is HC.out HR5.out.bel (Nat.le_succ _) HR5.out.left (E == 0)).mono ?_; rintro e w6 ⟨rfl, hg⟩; rw [HF.out]; have HL6 := Lib.hid (ER.grown HL5.out hg (by omega)); have HB6 := Lib.hid (below_of_grown HR5.out.bel hg (Nat.le_succ _)); have HM6 : Hid (MsgC w6 (w.heap.size + 2) k who ver (.slice A7 ys.length k7)) := Lib.hid (HR5.out.msg.ne (hg.block _ HR5.out.msg.lt (by intro e; have := Option.some.inj e; omega))); have HS6 : Hid (MsgC w6 w.heap.size 0 0 0 (.slice none 0 0)) := Lib.hid (HR5.out.res.ne (hg.block _ HR5.out.res.lt (by intro e; have := Option.some.inj e; omega))); clear hg))
      clear q0 q1 q2 q3
      obtain ⟨q0, q1, q2, q3⟩ := HM6.out.cells
      obtain ⟨s0, s1, s2, s3⟩ := HS6.out.cells
      have sf := HS6.out.f
      by_cases hF0 : F = 0
      · have t0 : (F != 0) = false := by simpa using hF0
        go_wp2
        obtain ⟨z0, z1, z2, z3⟩ := (HS6.out.set k who ver (.slice A7 ys.length k7)).cells
        unfold setMsg at z0 z1 z2 z3
        refine bodyPost_ret (v := .tuple #[.agg #[.int .i64 k, .int .i64 who, .int .i64 ver, .slice A7 ys.length k7], .int .i64 0]) (by simp [results, Try.results67, go_sem, z0, z1, z2, z3]) rfl ?_
        subst hF0
        refine ⟨_, rfl, ?_, below_setMsg HB6.out w.heap.size (Nat.le_refl _) k who ver (.slice A7 ys.length k7)⟩
        rw [HMM.out]
        exact ⟨_, rfl, Kd.R_lower (HL6.out.setMsg (E := w.heap.size) (by omega) _ _ _ _) (by omega)⟩
      · have t0 : (F != 0) = true := by simpa using hF0
        go_wp2
        obtain ⟨z0, z1, z2, z3⟩ := (HS6.out.set 0 0 0 (.slice none 0 0)).cells
        unfold setMsg at z0 z1 z2 z3
        refine bodyPost_ret (v := .tuple #[.agg #[.int .i64 0, .int .i64 0, .int .i64 0, .slice none 0 0], .int .i64 F]) (by simp [results, Try.results67, go_sem, z0, z1, z2, z3]) rfl ?_
        exact ⟨_, rfl, ⟨_, rfl, Kd.R_nil _ _ _ _ _⟩, below_setMsg HB6.out w.heap.size (Nat.le_refl _) 0 0 0 (.slice none 0 0)⟩
end Go.Proofs.Ytmbnjgnmblgjoaa.Man
end

-- OpensCodec
section
/- What tokens, entries, messages read as. -/


namespace Go.Proofs.Ytmbnjgnmblgjoaa.Open
open Go.RowKit Go.ChangeShapes Go.WideShapes Go.Proofs.YtmbnjgnmblgjoaaW.PrintWords
set_option linter.unusedVariables false
/-- Opens, OpensF, shut up in a structure: Lean does not look through them. -/
structure OP {α : Type} (P : Program) (t : TypeId) (K : Kd α) (bk : α → Nat) : Prop where
  out : Opens P t K (fun _ => True) bk
structure OF {α : Type} (P : Program) (o : Nat) (fs : List Field) (K : Kd α) (bk : α → Nat) : Prop where
  out : OpensF P o fs K (fun _ => True) bk
theorem OP.of {α : Type} {P : Program} {t : TypeId} {K : Kd α} {wf : α → Prop} {bk bk' : α → Nat} (h : Opens P t K wf bk) (hb : ∀ x, bk' x ≤ bk x) : OP P t K bk' := ⟨by
  intro H enc w fuel cs d ps hd hwt
  obtain ⟨x, k1, k2, k3⟩ := h enc w fuel cs d ps hd hwt
  exact ⟨x, k1, trivial, Nat.le_trans (hb x) k3⟩⟩
theorem OF.of {α : Type} {P : Program} {o : Nat} {fs : List Field} {K : Kd α} {wf : α → Prop} {bk bk' : α → Nat} (h : OpensF P o fs K wf bk) (hb : ∀ x, bk' x ≤ bk x) : OF P o fs K bk' := ⟨by
  intro H enc w n cs ys hl hy hwt
  obtain ⟨x, k1, k2, k3⟩ := h enc w n cs ys hl hy hwt
  exact ⟨x, k1, trivial, Nat.le_trans (hb x) k3⟩⟩
theorem OF.cons {α β : Type} {P : Program} {o : Nat} {f : Field} {fs : List Field} {K : Kd α} {K' : Kd β} {bk : α → Nat} {bk' : β → Nat} (ho : f.offset = o) (hc : P.cellsOf f.type = K.sz) (h : OP P f.type K bk) (h' : OF P (o + K.sz) fs K' bk') : OF P o (f :: fs) (Kd.pair K K') (fun x => bk x.1 + bk' x.2) :=
  .of (opensF_cons ho hc h.out h'.out) (fun _ => Nat.le_refl _)
theorem OP.struct {α β : Type} {P : Program} {t : TypeId} {fs : Array Field} {l : List Field} {K : Kd α} {bk : α → Nat} (f : β → α) (g : α → β) (hfg : ∀ a, f (g a) = a) (ht : P.underlying t = some (.struct fs)) (hl : fs.toList = l) (hc : P.cellsOf t = K.sz) (h : OF P 0 l K bk) : OP P t (Kd.iso K f) (fun x => bk (f x) + 1) :=
  .of (opens_iso f g hfg (opens_struct ht hl hc h.out)) (fun _ => Nat.le_refl _)
theorem OP.slice {α : Type} {P : Program} {t e : TypeId} {K : Kd α} {bk : α → Nat} (ht : P.underlying t = some (.slice e)) (hc : P.cellsOf e = K.sz) (h : OP P e K bk) : OP P t (Kd.slice e K) (fun xs => sum1 bk xs + 1) :=
  .of (opens_slice ht hc (B := P.bytesOf e) rfl h.out e) (fun _ => Nat.le_refl _)
theorem OP.le {α : Type} {P : Program} {t : TypeId} {K : Kd α} {bk bk' : α → Nat} (h : OP P t K bk) (hb : ∀ x, bk' x ≤ bk x) : OP P t K bk' := .of h.out hb
theorem OF.le {α : Type} {P : Program} {o : Nat} {fs : List Field} {K : Kd α} {bk bk' : α → Nat} (h : OF P o fs K bk) (hb : ∀ x, bk' x ≤ bk x) : OF P o fs K bk' := .of h.out hb
/-- The kind of messages. -/
def kMsg : Kd Man.MsgL := Kd.iso (Kd.pair (Kd.int .i64) (Kd.pair (Kd.int .i64) (Kd.pair (Kd.int .i64) (Kd.slice 26 K.k26)))) (fun m : Man.MsgL => (m.k, m.who, m.ver, m.l))
end Go.Proofs.Ytmbnjgnmblgjoaa.Open
end

-- Back
section
/- The statement CodecBack, stepped through. No condition. Printed by wip/tools/gen_back.py. -/


namespace Go.Proofs.Ytmbnjgnmblgjoaa.Man
open Go.RowKit Go.Proofs.YtmbnjgnmblgjoaaW.PrintWords Go.Proofs.YtmbnjgnmblgjoaaW.PrintLast Go.Proofs.YtmbnjgnmblgjoaaW.PrintMore
set_option linter.unusedVariables false
set_option linter.unusedSimpArgs false
set_option maxRecDepth 100000

theorem EntAt.below {w W : World} {P c : Nat} {x : K.S26} {A : Option Addr} (h : EntAt w P x A c) (hb : Below w.heap.size w W) : EntAt W P x A c := (hb.block _ h.lt).trans h
theorem MsgAt.below {w W : World} {P n c : Nat} {k who ver : Int} {A : Option Addr} (h : MsgAt w P k who ver A n c) (hb : Below w.heap.size w W) : MsgAt W P k who ver A n c := (hb.block _ h.lt).trans h
theorem EntAt.ne {w W : World} {P c : Nat} {x : K.S26} {A : Option Addr} (h : EntAt w P x A c) (e : W.heap[P]? = w.heap[P]?) : EntAt W P x A c := e.trans h
theorem MsgAt.ne {w W : World} {P n c : Nat} {k who ver : Int} {A : Option Addr} (h : MsgAt w P k who ver A n c) (e : W.heap[P]? = w.heap[P]?) : MsgAt W P k who ver A n c := e.trans h
end Go.Proofs.Ytmbnjgnmblgjoaa.Man
end

-- One
section
/- The statement CodecOne, stepped through. No condition. Printed by wip/tools/gen_one.py. -/

namespace Go.Proofs.Ytmbnjgnmblgjoaa.Man
open Go.RowKit Go.Proofs.YtmbnjgnmblgjoaaW.PrintWords Go.Proofs.YtmbnjgnmblgjoaaW.PrintLast Go.Proofs.YtmbnjgnmblgjoaaW.PrintMore
set_option linter.unusedVariables false
set_option linter.unusedSimpArgs false
set_option maxRecDepth 100000

theorem bytes_wf {l : List Int} (h : ∀ x ∈ l, (Lit.int .u8 x).wf = true) : areBytesN l = true := by
  unfold areBytesN
  rw [List.all_eq_true]
  intro x hx
  have := Open.wf_u8 (h x hx)
  simp
  omega
end Go.Proofs.Ytmbnjgnmblgjoaa.Man
end

-- CodecGets
section
/- The statement CodecGets, stepped through. No condition. -/


namespace Go.Proofs.Ytmbnjgnmblgjoaa.Man
open Go.RowKit Go.Proofs.YtmbnjgnmblgjoaaW.PrintWords Go.Proofs.YtmbnjgnmblgjoaaW.PrintLast Go.Proofs.YtmbnjgnmblgjoaaW.PrintMore
set_option linter.unusedVariables false
set_option linter.unusedSimpArgs false
set_option maxRecDepth 100000

theorem BR.none0 (W : World) (base : Nat) (hb : base ≤ W.heap.size) : BR (W.alloc (.cells #[] 5)) base (.slice (some ⟨W.heap.size, 0, none⟩) 0 0) [] :=
  Kd.R_of_own (by have := own_lit W base 5 .u8 [] hb (by simp); simpa [nums, encs] using this) (fun _ _ => trivial)

set_option maxHeartbeats 32000000 in
theorem gets_walk (A1 : Option Addr) (c1 : Nat) (b : List Int) (w : World) (hr1 : Kd.C (Kd.int .u8) w A1 b.length b) (hc1 : b.length ≤ c1) (hl : b.length ≤ 140737488351232) (hB : areBytesN b = true) :
    Calls Try.prog 11 #[.slice A1 b.length c1] w fun e w' => e = .returned (.bool true) ∧ Below w.heap.size w w' := by
  obtain ⟨w0, hw0⟩ : ∃ w0, w0 = w.alloc (.cells #[] 5) := ⟨_, rfl⟩
  have hb0 : Below w.heap.size w w0 := by rw [hw0]; exact (Below.refl _ _).alloc (Nat.le_refl _) _
  have hE0 : BR w0 w.heap.size (.slice (some ⟨w.heap.size, 0, none⟩) 0 0) [] := by rw [hw0]; exact BR.none0 w _ (Nat.le_refl _)
  have HC1 := Lib.hid hr1
  have HB := Lib.hid hB
  have HB0 := Lib.hid hb0
  have HE0 := Lib.hid hE0
  obtain ⟨⟨xs, er⟩, hgd⟩ : ∃ p, getDocF b = p := ⟨_, rfl⟩
  obtain ⟨⟨x, erx⟩, hgx⟩ : ∃ p, getEntryF b = p := ⟨_, rfl⟩
  obtain ⟨⟨m, erm⟩, hgm⟩ : ∃ p, getMsgF b = p := ⟨_, rfl⟩
  have HGD := Lib.hid hgd
  have HGX := Lib.hid hgx
  have HGM := Lib.hid hgm
  have HW0 : Hid (w0 = w.alloc (.cells #[] 5)) := Lib.hid hw0
  clear hr1 hB hb0 hE0 hgd hgx hgm hw0
  go_enter Try.func11, Try.ntmps11
  go_upto_region 2 with (first
    | (at_builtin; rw [← HW0.out]; refine BR.append_ev (w := w0) (base := w.heap.size) HE0.out (Kd.C_below HC1.out HB0.out) rfl (.tmp 16) (.tmp 17) rfl rfl rfl HB0.out.size (by simp only [List.length_nil]; omega) ?_; intro v2 w2 hr2 hb2 hat; rw [List.nil_append] at hr2; obtain ⟨A2, k2, rfl, hk2, hC2⟩ := BR.len hr2; have HX2 := Lib.hid (HB0.out.trans (hb2.mono (Nat.le_refl _))); have hD := getDoc_is w2 A2 k2 b hC2 hk2 HB.out; rw [HGD.out] at hD; simp only at hD; have HD := Lib.hid hD; clear hr2 hb2 hat hC2 hk2 hD)
    | (go_at_call 63; refine HD.out.mono ?_; rintro e w3 ⟨v, rfl, hr, hb⟩; obtain ⟨A3, k3, rfl, _, hC⟩ := TR.C hr; have HR3 := Lib.hid hC; have HX3 := Lib.hid (HX2.out.trans (hb.mono HX2.out.size)); clear hr hb hC HD))
  have hD := rgetDoc_is w3 A1 c1 b (Kd.C_below HC1.out HX3.out) hc1 HB.out hl
  rw [HGD.out] at hD
  simp only at hD
  have HD := Lib.hid hD
  clear hD
  go_upto_region 3 with (go_at_call 64; refine HD.out.mono ?_; rintro e w4 ⟨v, rfl, hr, hb⟩; obtain ⟨A4, k4, rfl, _, hC⟩ := TR.C hr; have HR4 := Lib.hid hC; have HR34 := Lib.hid (Kd.C_below HR3.out hb); have HX4 := Lib.hid (HX3.out.trans (hb.mono HX3.out.size)); clear hr hb hC HD)
  have hD := getEntry_is w4 A1 c1 b (Kd.C_below HC1.out HX4.out) hc1 HB.out
  rw [HGX.out] at hD
  simp only at hD
  have HD := Lib.hid hD
  clear hD HR3
  go_upto_region 4 with (go_at_call 23; refine HD.out.mono ?_; rintro e w5 ⟨v, rfl, ⟨u, rfl, hr⟩, hb⟩; obtain ⟨A5, k5, rfl, l5, hC⟩ := TR.C hr; have HR5 := Lib.hid hC; have HX45 := Lib.hid hb; have HX5 := Lib.hid (HX4.out.trans (hb.mono HX4.out.size)); clear hr hb hC HD)
  obtain ⟨w6, hw6⟩ : ∃ w6, w5.alloc (entO x A5 k5) = w6 := ⟨_, rfl⟩
  obtain ⟨P5, hP5⟩ : ∃ P, w5.heap.size = P := ⟨_, rfl⟩
  have HE6 : Hid (EntAt w6 P5 x A5 k5) := Lib.hid (by rw [← hw6, ← hP5]; exact World.alloc_heap_new w5 _)
  have hb6 : Below w5.heap.size w5 w6 := by rw [← hw6]; exact (Below.refl _ _).alloc (Nat.le_refl _) _
  rw [hw6, hP5]
  have HX6 := Lib.hid (HX5.out.trans (hb6.mono HX5.out.size))
  have HR36 := Lib.hid (Kd.C_below HR34.out (HX45.out.trans (hb6.mono HX45.out.size)))
  have HR46 := Lib.hid (Kd.C_below HR4.out (HX45.out.trans (hb6.mono HX45.out.size)))
  have HR56 := Lib.hid (Kd.C_below HR5.out hb6)
  have hD := rgetEntry_is w6 A1 c1 b (Kd.C_below HC1.out HX6.out) hc1 HB.out hl
  rw [HGX.out] at hD
  simp only at hD
  have HD := Lib.hid hD
  clear hD HR34 HR4 HR5 hw6 hP5 hb6 HX45
  go_upto_region 5 with (go_at_call 65; refine HD.out.mono ?_; rintro e w7 ⟨v, rfl, ⟨u, rfl, hr⟩, hb⟩; obtain ⟨A7, k7, rfl, l7, hC⟩ := TR.C hr; have HR7 := Lib.hid hC; have HX67 := Lib.hid hb; have HX7 := Lib.hid (HX6.out.trans (hb.mono HX6.out.size)); clear hr hb hC HD)
  obtain ⟨w8, hw8⟩ : ∃ w8, w7.alloc (entO x A7 k7) = w8 := ⟨_, rfl⟩
  obtain ⟨P7, hP7⟩ : ∃ P, w7.heap.size = P := ⟨_, rfl⟩
  have HF8 : Hid (EntAt w8 P7 x A7 k7) := Lib.hid (by rw [← hw8, ← hP7]; exact World.alloc_heap_new w7 _)
  have hb8 : Below w7.heap.size w7 w8 := by rw [← hw8]; exact (Below.refl _ _).alloc (Nat.le_refl _) _
  rw [hw8, hP7]
  have HX8 := Lib.hid (HX7.out.trans (hb8.mono HX7.out.size))
  have hX68 : Below w6.heap.size w6 w8 := HX67.out.trans (hb8.mono HX67.out.size)
  have HR38 := Lib.hid (Kd.C_below HR36.out hX68)
  have HR48 := Lib.hid (Kd.C_below HR46.out hX68)
  have HR58 := Lib.hid (Kd.C_below HR56.out hX68)
  have HR78 := Lib.hid (Kd.C_below HR7.out hb8)
  have HE8 := Lib.hid (HE6.out.below hX68)
  have hD := getMsg_is w8 A1 c1 b (Kd.C_below HC1.out HX8.out) hc1 HB.out
  rw [HGM.out] at hD
  simp only at hD
  have HD := Lib.hid hD
  clear hD HR36 HR46 HR56 HR7 hw8 hP7 hb8 HX67 hX68 HE6
  go_upto_region 6 with (go_at_call 66; refine HD.out.mono ?_; rintro e w9 ⟨v, rfl, ⟨u, rfl, hr⟩, hb⟩; obtain ⟨A9, k9, rfl, l9, hC⟩ := ER.C hr; have HR9 := Lib.hid hC; have HX89 := Lib.hid hb; have HX9 := Lib.hid (HX8.out.trans (hb.mono HX8.out.size)); clear hr hb hC HD)
  obtain ⟨wa, hwa⟩ : ∃ wa, w9.alloc (msgO m A9 k9) = wa := ⟨_, rfl⟩
  obtain ⟨P9, hP9⟩ : ∃ P, w9.heap.size = P := ⟨_, rfl⟩
  have HMa : Hid (MsgAt wa P9 m.k m.who m.ver A9 m.l.length k9) := Lib.hid (by rw [← hwa, ← hP9]; exact World.alloc_heap_new w9 _)
  have hba : Below w9.heap.size w9 wa := by rw [← hwa]; exact (Below.refl _ _).alloc (Nat.le_refl _) _
  rw [hwa, hP9]
  have HXa := Lib.hid (HX9.out.trans (hba.mono HX9.out.size))
  have hX8a : Below w8.heap.size w8 wa := HX89.out.trans (hba.mono HX89.out.size)
  have HR3a := Lib.hid (Kd.C_below HR38.out hX8a)
  have HR4a := Lib.hid (Kd.C_below HR48.out hX8a)
  have HR5a := Lib.hid (Kd.C_below HR58.out hX8a)
  have HR7a := Lib.hid (Kd.C_below HR78.out hX8a)
  have HR9a := Lib.hid (Kd.C_below HR9.out hba)
  have HEa := Lib.hid (HE8.out.below hX8a)
  have HFa := Lib.hid (HF8.out.below hX8a)
  have hD := rgetMsg_is wa A1 c1 b (Kd.C_below HC1.out HXa.out) hc1 HB.out hl
  rw [HGM.out] at hD
  simp only at hD
  have HD := Lib.hid hD
  clear hD HR38 HR48 HR58 HR78 HR9 hwa hP9 hba HX89 hX8a HE8 HF8
  go_upto_region 7 with (go_at_call 67; refine HD.out.mono ?_; rintro e wb ⟨v, rfl, ⟨u, rfl, hr⟩, hb⟩; obtain ⟨Ab, kb, rfl, lb, hC⟩ := ER.C hr; have HRb := Lib.hid hC; have HXab := Lib.hid hb; have HXb := Lib.hid (HXa.out.trans (hb.mono HXa.out.size)); clear hr hb hC HD)
  obtain ⟨wc, hwc⟩ : ∃ wc, wb.alloc (msgO m Ab kb) = wc := ⟨_, rfl⟩
  obtain ⟨Pb, hPb⟩ : ∃ P, wb.heap.size = P := ⟨_, rfl⟩
  have HNc : Hid (MsgAt wc Pb m.k m.who m.ver Ab m.l.length kb) := Lib.hid (by rw [← hwc, ← hPb]; exact World.alloc_heap_new wb _)
  have hbc : Below wb.heap.size wb wc := by rw [← hwc]; exact (Below.refl _ _).alloc (Nat.le_refl _) _
  rw [hwc, hPb]
  have HXc := Lib.hid (HXb.out.trans (hbc.mono HXb.out.size))
  have hXac : Below wa.heap.size wa wc := HXab.out.trans (hbc.mono HXab.out.size)
  have HR3c := Lib.hid (Kd.C_below HR3a.out hXac)
  have HR4c := Lib.hid (Kd.C_below HR4a.out hXac)
  have HR5c := Lib.hid (Kd.C_below HR5a.out hXac)
  have HR7c := Lib.hid (Kd.C_below HR7a.out hXac)
  have HR9c := Lib.hid (Kd.C_below HR9a.out hXac)
  have HRbc := Lib.hid (Kd.C_below HRb.out hbc)
  have HEc := Lib.hid (HEa.out.below hXac)
  have HFc := Lib.hid (HFa.out.below hXac)
  have HMc := Lib.hid (HMa.out.below hXac)
  have HAL := Lib.hid (alike16_yes wc A3 A4 k3 k4 xs HR3c.out HR4c.out)
  clear HR3a HR4a HR5a HR7a HR9a HRb hwc hPb hbc HXab hXac HEa HFa HMa HR3c HR4c HGD HGX HGM
  clear HX2 HX3 HX4 HX5 HX6 HX7 HX8 HX9 HXa HXb HW0 HE0 HB0
  go_wp2_with (first
    | (go_at_call 68; refine HAL.out.mono ?_; rintro e wd ⟨rfl, hb⟩; have HXd := Lib.hid (HXc.out.trans (hb.mono HXc.out.size)); have HR5d := Lib.hid (Kd.C_below HR5c.out hb); have HR7d := Lib.hid (Kd.C_below HR7c.out hb); have HR9d := Lib.hid (Kd.C_below HR9c.out hb); have HRbd := Lib.hid (Kd.C_below HRbc.out hb); have HEd := Lib.hid (HEc.out.below hb); have HFd := Lib.hid (HFc.out.below hb); have HMd := Lib.hid (HMc.out.below hb); have HNd := Lib.hid (HNc.out.below hb); obtain ⟨q0, q1, q2, q3, q4, q5, q6, q7, q8, q9⟩ := HEd.out.c; have hV5 : EntAt (wd.alloc (entO x A5 k5)) P7 x A7 k7 := HFd.out.below ((Below.refl _ _).alloc (Nat.le_refl _) _); obtain ⟨v0, v1, v2, v3, v4, v5, v6, v7, v8, v9⟩ := hV5.c; have HL5 : Hid (Below wd.heap.size wd ((wd.alloc (entO x A5 k5)).alloc (entO x A7 k7))) := Lib.hid (((Below.refl _ _).alloc (Nat.le_refl _) _).alloc (by simp) _); have HS5 := Lib.hid (entries16_yes ((wd.alloc (entO x A5 k5)).alloc (entO x A7 k7)) (some ⟨wd.heap.size, 0, none⟩) (some ⟨wd.heap.size + 1, 0, none⟩) 1 1 [x] (Kd.C_below (C_ent1 wd x A5 k5 l5 HR5d.out) ((Below.refl _ _).alloc (Nat.le_refl _) _)) (by have h := C_ent1 (wd.alloc (entO x A5 k5)) x A7 k7 l7 (Kd.C_below HR7d.out ((Below.refl _ _).alloc (Nat.le_refl _) _)); rwa [World.size_alloc] at h)); clear hb hV5 HAL)
    | (go_at_call 69; refine HS5.out.mono ?_; rintro e we ⟨rfl, hb⟩; have hXde : Below wd.heap.size wd we := HL5.out.trans (hb.mono HL5.out.size); have HXe := Lib.hid (HXd.out.trans (hXde.mono HXd.out.size)); clear q0 q1 q2 q3 q4 q5 q6 q7 q8 q9 v0 v1 v2 v3 v4 v5 v6 v7 v8 v9 HS5; have HMe := Lib.hid (HMd.out.below hXde); have HNe := Lib.hid (HNd.out.below hXde); have HMY := Lib.hid (message16_yes we A9 Ab k9 kb m (Kd.C_below HR9d.out hXde) (Kd.C_below HRbd.out hXde)); obtain ⟨q0, q1, q2, q3⟩ := HMe.out.c; obtain ⟨v0, v1, v2, v3⟩ := HNe.out.c; clear hb hXde)
    | (go_at_call 70; refine HMY.out.mono ?_; rintro e wf ⟨rfl, hb⟩; have HXf := Lib.hid (HXe.out.trans (hb.mono HXe.out.size)); clear hb HMY)
    | (go_at_call 47; refine (awake16_is _).mono ?_; rintro e wg ⟨rfl, hb⟩; have HXg := Lib.hid (HXf.out.trans (hb.mono HXf.out.size)); clear hb))
  go_ret
  exact ⟨rfl, HXg.out⟩
theorem gets_row (A1 : Option Addr) (c1 : Nat) (b : List Int) (w : World) (hr1 : Kd.C (Kd.int .u8) w A1 b.length b) (hc1 : b.length ≤ c1) (hw : b.length * 1 ≤ 140737488351232 ∧ ∀ x ∈ b, (Lit.int .u8 x).wf = true) :
    Calls Try.prog 11 #[.slice A1 b.length c1] w fun e w' => e = .returned (.bool true) ∧ Below w.heap.size w w' := gets_walk A1 c1 b w hr1 hc1 (by omega) (bytes_wf hw.2)
end Go.Proofs.Ytmbnjgnmblgjoaa.Man
end

-- LawCodecGets
section
-- Written by a program of this session (wip/tools/row5.py). Not trusted: Lean checks it.










namespace Go.Proofs.Ytmbnjgnmblgjoaa.codecGets
open Go.ChangeShapes Go.WideShapes Go.ChangeAt Go.RowKit Go.Proofs.Ytmbnjgnmblgjoaa.Open
open Go.ChangeMaps (open_string shut_string)
set_option linter.unusedVariables false
theorem own : ownKnob Try.prog.godebug = none := by kernel_rfl
theorem laidOut : laidOutB Try.prog = true := by kernel_rfl
set_option maxRecDepth 100000 in
theorem lifted (os : Os) (started : os.Started) (H : Type) (enc : TypeId × Value → H) :
    ReturnsInHanded {} Try.checked os 11 .any (Rows.codecGetsSpec.pre6 enc Try.prog Try.f11 Rows.codecGetsRow.domain false) (Rows.codecGetsSpec.post enc Try.prog Try.f11 false true false false) := by
  refine returnsInHanded_of_change_sized (C := Try.checked) own started (by kernel_rfl) Try.func11
    (ChangeSpec.witness6 (enc := enc) (C := Try.checked) false ⟨#[], #[.slice none 0 0], []⟩ 12 (by kernel_rfl) (by kernel_rfl) (by kernel_rfl) (by kernel_rfl)) ?_
  intro W base args ds gs before hval0 hW hcnd hsz0 _
  have hsz : (DataW.weightsEach Try.prog (Try.f11.params.toList ++ Rows.codecGetsSpec.plain.varTypes Try.prog) (ds ++ gs)).all (· ≤ reachBytes) = true := hsz0
  have hval : ∀ (j : Nat) t v, Try.f11.params[j]? = some t → args[j]? = some v → Value.okWide Try.prog W .any base t v := hval0
  have hW' := hW
  obtain ⟨p, q, hA0, hV, rfl, hfz, hnd⟩ := hW
  have hA : DataW.TrodAll enc Try.prog W 0 (fun _ => true) true Try.f11.params.toList args.toList ds p := hA0
  rw [Try.params11] at hA hval hsz
  obtain ⟨v0, vs0, d0, ds0, p0, q0, hargs, rfl, rfl, h0, r0⟩ := trodAll_cons hA
  obtain ⟨rfl, rfl, rfl⟩ := trodAll_nil r0
  obtain rfl : args = #[v0] := by cases args; simp_all
  obtain ⟨rfl, rfl⟩ := trodVars_none hV
  obtain ⟨a0, len0, cap0, rfl⟩ := okWide_slice Try.underlying27 (hval 0 27 v0 rfl rfl)
  obtain ⟨z0, rfl, c0, k0, w0, b0⟩ := Opens.slice_arg opens_bytes hsz (j := 0) (t := 27) rfl rfl h0
  have kt0 := h0
  have lt0 : ∀ x ∈ p0, x.block < W.heap.size := by obtain ⟨m, hm⟩ := kt0; exact DataW.trod_lt m _ _ _ hm
  clear hA0 hval0 hsz0 hsz
  refine (Man.gets_row a0 cap0 z0 W k0 c0 w0).mono fun e W' ⟨he, bel⟩ => ?_
  subst he
  exact ⟨_, rfl, _, _, _, [], _, [], hW', trodAll_mk1 (shut_bool Try.underlying4 _), (trodAll_cons_mk (Below.trod laidOut (by kernel_rfl) (of_decide_eq_true (by kernel_rfl)) kt0 bel lt0) trodAll_mk0), rfl, bel.frame _, fun h => by cases h⟩
theorem over : Rows.codecGetsRow.holds Try.pinned (OpenSpec.ofChange Rows.codecGetsSpec) :=
  OpenClaim.holds_of_wide 11 Try.f11 rfl rfl rfl rfl rfl rfl rfl ⟨rfl, rfl, rfl, rfl, rfl⟩ rfl rfl rfl rfl rfl (by kernel_rfl) Try.func11 (by kernel_rfl)
    (of_decide_eq_true (by kernel_rfl)) (by unfold Func.isWrapper; first | (rw [if_pos (by decide +kernel)]; kernel_rfl) | (rw [if_neg (by decide +kernel)]; exact ⟨rfl, rfl⟩))
    (fun os started H enc _ => lifted os started H enc)
theorem proved : Rows.CodecGetsSaid := over
#print axioms proved
end Go.Proofs.Ytmbnjgnmblgjoaa.codecGets
namespace Go.Proofs.Ytmbnjgnmblgjoaa
/-- The row, under a short name, for the claim. -/
theorem codecGets_holds : Rows.CodecGetsSaid := codecGets.proved
end Go.Proofs.Ytmbnjgnmblgjoaa
end
