/- quad.Get of the given program: what it comes to, at every place (of int's range) of every row of bytes. -/
import Derived.Test.YtmbnjgnmblgjoaaQuadMath
import Derived.Deep.DeepCutAuto
import Derived.Deep.CutBlock
import Derived.Test.YtmbnjgnmblgjoaaWTab
import Derived.Test.YtmbnjgnmblgjoaaWFour
namespace Go.Proofs.Ytmbnjgnmblgjoaa.Man
open Go.RowKit Go.Proofs.YtmbnjgnmblgjoaaW.PrintWords Go.Proofs.YtmbnjgnmblgjoaaW.PrintLast Go.Proofs.YtmbnjgnmblgjoaaW.PrintMore
set_option linter.unusedVariables false
set_option linter.unusedSimpArgs false

/-- quad.Get. -/
def getF (b : List Int) (at_ : Int) : Int × Int × Int :=
  if at_ < 0 ∨ (b.length : Int) < at_ then (0, 0, 1) else (((getL (b.drop at_.toNat) 0 0).1 : Int), at_ + ((getL (b.drop at_.toNat) 0 0).2.1 : Int), (getL (b.drop at_.toNat) 0 0).2.2)

theorem and127 (c : Int) (h0 : 0 ≤ c) (h1 : c ≤ 255) : Go.bits .and .u8 c 127 = c % 128 :=
  bits_mask .u8 8 (by decide) wraps_u8 7 (by decide) c h0 (by simp; omega)

theorem getN_get {l : List Int} (h : areBytesN l = true) {k : Nat} (hk : k < l.length) : 0 ≤ l.getD k 0 ∧ l.getD k 0 ≤ 255 := by
  unfold areBytesN at h
  rw [List.all_eq_true] at h
  have := h (l.getD k 0) (by rw [show l.getD k 0 = l[k] by simp [List.getD, hk]]; exact List.getElem_mem hk)
  simpa using this
theorem areBytesN_drop {l : List Int} (h : areBytesN l = true) (k : Nat) : areBytesN (l.drop k) = true := by
  unfold areBytesN at *
  rw [List.all_eq_true] at *
  exact fun x hx => h x (List.mem_of_mem_drop hx)

theorem shl_wrap (c : Int) (m i : Nat) (h : c = m) (hb : m * 128 ^ i < 18446744073709551616) : IntKind.u64.wrap (c * 2 ^ (7 * i)) = ((m * 128 ^ i : Nat) : Int) := by
  have e : c * 2 ^ (7 * i) = ((m * 128 ^ i : Nat) : Int) := by
    rw [h, Int.pow_mul, Int.natCast_mul, Int.natCast_pow]; rfl
  rw [e, IntKind.wrap_u64]
  omega
theorem room_at (m i : Nat) (hi : i < 9) (hm : m < 128) : m * 128 ^ i < 18446744073709551616 := by
  have h1 : 128 ^ (i + 1) ≤ 128 ^ 9 := Nat.pow_le_pow_right (by decide) hi
  have h2 : (128 : Nat) ^ 9 = 9223372036854775808 := by decide
  have h3 : (m + 1) * 128 ^ i ≤ 128 * 128 ^ i := Nat.mul_le_mul_right _ hm
  rw [pow128] at h1
  rw [Nat.add_mul] at h3
  omega

set_option maxRecDepth 100000 in
set_option maxHeartbeats 4000000 in
theorem get_at (A0 : Option Addr) (c0 : Nat) (b : List Int) (p : Nat) (w : World) (hr : Kd.C (Kd.int .u8) w A0 b.length b) (hc : b.length ≤ c0) (hB : areBytesN b = true) (hp : p ≤ b.length) :
    Calls Try.prog 91 #[.slice A0 b.length c0, .int .i64 p] w fun e w' =>
      e = .returned (.tuple #[.int .u64 ((getL (b.drop p) 0 0).1 : Int), .int .i64 ((p : Int) + ((getL (b.drop p) 0 0).2.1 : Int)), .int .i64 (getL (b.drop p) 0 0).2.2]) ∧ w = w' := by
  have info5 : (Try.prog.info? 5).map (fun i => (i.zero, i.size, i.bytes)) = some (some (.int .u8 0), 1, 1) := by kernel_rfl
  obtain ⟨i0, hi0, _, hsz, _⟩ := info_parts info5
  obtain ⟨A8, hcut, hA8, hC8⟩ := print_drop_of (P := Try.prog) (Value.int .u8) 0 27 5 .i64 Try.underlying27 hi0 hsz A0 c0 b (p : Int) (by omega) (by omega) hc
  have hl0 := Kd.C_of_reads (h1 := fun _ => rfl) (hA8 _ (Kd.reads_of_C hr))
  have hB8 := areBytesN_drop hB p
  rw [Int.toNat_natCast] at hl0 hcut
  have hlen : b.length ≤ 9223372036854775807 := hr.2.1
  have hdl : (b.drop p).length = b.length - p := List.length_drop
  obtain ⟨l, hl⟩ : ∃ l, b.drop p = l := ⟨_, rfl⟩
  rw [hl] at hl0 hB8 hdl hcut ⊢
  have HLD := Lib.hid hl
  have HR := Lib.hid hl0
  have HB := Lib.hid hB8
  have HD := Lib.hid hdl
  have hll : (p : Int) + l.length ≤ 9223372036854775807 := by omega
  have hn1 : ¬ ((p : Int) < 0) := by omega
  clear hl0 hB8 hl hA8 hr hB hi0 hsz info5
  obtain ⟨R, hR⟩ : ∃ R, getL l 0 0 = R := ⟨_, rfl⟩
  rw [hR]
  have HRes := Lib.hid hR
  clear hR
  go_enter Try.func91, Try.ntmps91
  go_wp2
  go_loop [7, 8, 9, 22, 27, 43] (fun v7 _ _ v22 _ _ => ∃ (i n : Nat), v7 = .int .u64 (n : Int) ∧ v22 = .int .i64 (i : Int) ∧ i ≤ b.length - p ∧ i ≤ 9 ∧ Hid (n < 128 ^ i) ∧ Hid (getL (l.drop i) i n = R))
    (fun _ _ _ v22 _ _ => b.length - p - (intOf v22).toNat)
  case atStart => exact ⟨0, 0, rfl, rfl, Nat.zero_le _, by decide, Lib.hid (by decide), Lib.hid (by rw [List.drop_zero]; exact HRes.out)⟩
  case round =>
    clear HRes
    obtain ⟨i, n, rfl, rfl, hi, hi9, hn, hg⟩ := hrel
    by_cases hlt : i < b.length - p
    · have hltl : i < l.length := by rw [HD.out]; exact hlt
      obtain ⟨ad, rfl, hcell⟩ := Kd.at_int HR.out (i : Int) (by omega) (by omega)
      have hrd : rd l (i : Int) = l.getD i 0 := rfl
      rw [hrd, Int.toNat_natCast] at hcell
      obtain ⟨hc0, hc1⟩ := getN_get HB.out hltl
      have hgd : l.drop i = l.getD i 0 :: l.drop (i + 1) := by rw [List.drop_eq_getElem_cons hltl]; simp [List.getD, hltl]
      have hg2 := hg.out
      rw [hgd, getL] at hg2
      obtain ⟨c, hcv⟩ : ∃ c, l.getD i 0 = c := ⟨_, rfl⟩
      rw [hcv] at hcell hc0 hc1 hg2
      have hpi : (p : Int) + i < 9223372036854775807 := by omega
      have HG := Lib.hid hg2
      clear hrd hgd hg2 hcv hg hltl
      by_cases hbad : (0 < i ∧ c = 0) ∨ (i = 9 ∧ 1 < c)
      · have hR : R = (0, i, 4) := by have := HG.out; rw [if_pos hbad] at this; exact this.symm
        subst hR
        rcases hbad with ⟨h0, rfl⟩ | ⟨h9, h1⟩
        · go_wp2
          go_ret3
          exact ⟨by simp, rfl⟩
        · have hz : (c == 0) = false := by rw [beq_eq_false_iff_ne]; omega
          have h0 : 0 < i := by omega
          have h9' : ((i : Int) == 9) = true := by rw [beq_iff_eq]; omega
          clear h9
          go_wp2
          go_ret3
          exact ⟨by simp, rfl⟩
      · have hg3 := HG.out
        rw [if_neg hbad] at hg3
        have HG3 := Lib.hid hg3
        clear hg3 HG
        have hq : i = 0 ∨ (0 < i ∧ i < 9 ∧ c ≠ 0) ∨ (i = 9 ∧ c = 1) := by omega
        by_cases hs : c < 128
        · have hR : R = (n + c.toNat * 128 ^ i, i + 1, 0) := by have := HG3.out; rw [if_pos hs] at this; exact this.symm
          have hroom : c.toNat * 128 ^ i < 18446744073709551616 := by
            rcases hq with rfl | ⟨_, h, _⟩ | ⟨rfl, rfl⟩
            · exact room_at _ _ (by decide) (by omega)
            · exact room_at _ _ h (by omega)
            · decide
          have hm := shl_wrap c c.toNat i (by omega) hroom
          have hor := or_shl n c.toNat i hi9 hn.out hroom
          obtain ⟨y, hy⟩ : ∃ y : Nat, c.toNat * 128 ^ i = y := ⟨_, rfl⟩
          rw [hy] at hm hor hR
          clear hy hroom
          subst hR
          clear hpi
          rcases hq with h0 | ⟨h1, h2, h3⟩ | ⟨h9, hc1'⟩
          · have h0' : i ≤ 0 := by omega
            have h9 : ((i : Int) == 9) = false := by rw [beq_eq_false_iff_ne]; omega
            clear h0
            go_wp2
            go_ret3
            exact ⟨by simp; omega, rfl⟩
          · have hz : (c == 0) = false := by rw [beq_eq_false_iff_ne]; omega
            have h9 : ((i : Int) == 9) = false := by rw [beq_eq_false_iff_ne]; omega
            clear h2 h3
            go_wp2
            go_ret3
            exact ⟨by simp; omega, rfl⟩
          · have h0 : 0 < i := by omega
            have h9' : ((i : Int) == 9) = true := by rw [beq_iff_eq]; omega
            have hz : (c == 0) = false := by rw [beq_eq_false_iff_ne]; omega
            have hc2 : c ≤ 1 := by omega
            clear h9 hc1'
            go_wp2
            go_ret3
            exact ⟨by simp; omega, rfl⟩
        · have hi8 : i < 9 := by omega
          have hand := and127 c hc0 hc1
          have hroom : (c.toNat - 128) * 128 ^ i < 18446744073709551616 := room_at _ _ hi8 (by omega)
          have hm := shl_wrap (c % 128) (c.toNat - 128) i (by omega) hroom
          have hor := or_shl n (c.toNat - 128) i hi9 hn.out hroom
          have hnext : n + (c.toNat - 128) * 128 ^ i < 128 ^ (i + 1) := by
            have h1 := hn.out
            have h2 : (c.toNat - 128 + 1) * 128 ^ i ≤ 128 * 128 ^ i := Nat.mul_le_mul_right _ (by omega)
            rw [pow128, Nat.add_mul] at *
            omega
          have hg4 := HG3.out
          rw [if_neg hs] at hg4
          obtain ⟨y, hy⟩ : ∃ y : Nat, (c.toNat - 128) * 128 ^ i = y := ⟨_, rfl⟩
          rw [hy] at hm hor hnext hg4
          have HNX := Lib.hid hnext
          have HG4 := Lib.hid hg4
          clear hy hnext hg4 hroom hpi
          rcases hq with h0 | ⟨h1, h2, h3⟩ | ⟨rfl, rfl⟩
          · have h0' : i ≤ 0 := by omega
            have h9 : ((i : Int) == 9) = false := by rw [beq_eq_false_iff_ne]; omega
            clear h0
            go_wp2
            go_round
            case rel => exact ⟨i + 1, n + y, by simp, by simp, by omega, by omega, HNX, HG4⟩
            case measure => simp [intOf]; omega
          · have hz : (c == 0) = false := by rw [beq_eq_false_iff_ne]; omega
            have h9 : ((i : Int) == 9) = false := by rw [beq_eq_false_iff_ne]; omega
            clear h3
            go_wp2
            go_round
            case rel => exact ⟨i + 1, n + y, by simp, by simp, by omega, by omega, HNX, HG4⟩
            case measure => simp [intOf]; omega
          · omega
    · obtain rfl : i = b.length - p := by omega
      go_wp2
      go_ret3
      have := hg.out
      rw [← HD.out, List.drop_length, getL] at this
      subst this
      refine ⟨?_, rfl⟩
      have e : (b.length : Int) = (p : Int) + (l.length : Int) := by rw [HD.out]; omega
      simp [e]

set_option maxRecDepth 100000 in
set_option maxHeartbeats 4000000 in
theorem get_bad (A0 : Option Addr) (c0 : Nat) (b : List Int) (p : Int) (w : World) (hp : p < 0 ∨ (b.length : Int) < p) :
    Calls Try.prog 91 #[.slice A0 b.length c0, .int .i64 p] w fun e w' => e = .returned (.tuple #[.int .u64 0, .int .i64 0, .int .i64 1]) ∧ w = w' := by
  by_cases h0 : p < 0
  · clear hp
    go_enter Try.func91, Try.ntmps91
    go_wp2
    go_ret3
    exact ⟨rfl, rfl⟩
  · have h1 : 0 ≤ p := by omega
    have h2 : (b.length : Int) < p := by omega
    clear hp h0
    go_enter Try.func91, Try.ntmps91
    go_wp2
    go_ret3
    exact ⟨rfl, rfl⟩

theorem get_any (A0 : Option Addr) (c0 : Nat) (b : List Int) (p : Int) (w : World) (hr : Kd.C (Kd.int .u8) w A0 b.length b) (hc : b.length ≤ c0) (hB : areBytesN b = true) :
    Calls Try.prog 91 #[.slice A0 b.length c0, .int .i64 p] w fun e w' => e = .returned (.tuple #[.int .u64 (getF b p).1, .int .i64 (getF b p).2.1, .int .i64 (getF b p).2.2]) ∧ w = w' := by
  unfold getF
  by_cases h : p < 0 ∨ (b.length : Int) < p
  · rw [if_pos h]; exact get_bad A0 c0 b p w h
  · rw [if_neg h]
    obtain ⟨q, rfl⟩ : ∃ q : Nat, p = (q : Int) := ⟨p.toNat, by omega⟩
    exact get_at A0 c0 b q w hr hc hB (by omega)

/-! ### The form in which the texts written by wip/tools/ppatch.py call it -/
def quad_Get.f (l0 : List Int) (a1 : Int) : Option (Int × Int × Int) := if areBytesN l0 = true then some (getF l0 a1) else none
theorem quad_Get.calls (A0 : Option Addr) (c0 : Nat) (l0 : List Int) (a1 : Int) (r1 : Int) (r2 : Int) (r3 : Int) (w : World) (hr0 : Kd.C (Kd.int .u8) w A0 l0.length l0) (hc0 : l0.length ≤ c0) (h : quad_Get.f l0 a1 = some (r1, r2, r3)) :
    Calls Try.prog 91 #[.slice A0 l0.length c0, .int .i64 a1] w fun e w' => e = .returned (.tuple #[.int .u64 r1, .int .i64 r2, .int .i64 r3]) ∧ Drawn0 w w' := by
  unfold quad_Get.f at h
  split at h
  · rename_i hB
    have e := Option.some.inj h
    refine (get_any A0 c0 l0 a1 w hr0 hc0 hB).mono ?_
    rintro e' w' ⟨rfl, rfl⟩
    rw [e]
    exact ⟨rfl, Drawn0.refl _⟩
  · cases h

end Go.Proofs.Ytmbnjgnmblgjoaa.Man
