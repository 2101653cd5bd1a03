/- SnapPlays: any Saves, stopped anywhere, of a store on two disks that held any bytes, tell, Save by Save, what the document's store tells. Conditions: the statement's own, no others. -/
-- Laid together by a program of this session (wip/tools/shake.py). Not trusted: Lean checks it.
import Derived.Test.YtmbnjgnmblgjoaaSp1
section
namespace Go.Proofs.Ytmbnjgnmblgjoaa.Man
open Go.RowKit Go.Proofs.YtmbnjgnmblgjoaaW.PrintWords Go.Proofs.YtmbnjgnmblgjoaaW.PrintLast Go.Proofs.YtmbnjgnmblgjoaaW.PrintMore
set_option linter.unusedVariables false
set_option linter.unusedSimpArgs false
set_option maxRecDepth 100000
theorem and127u (n : Nat) (hn : n < 18446744073709551616) : Go.bits .and .u64 (n : Int) 127 = ((n % 128 : Nat) : Int) := by
 have := bits_mask .u64 64 (by decide) (fun x h0 h1 => by
  have h1' : x < 18446744073709551616 := h1
  rw [IntKind.wrap_u64]; omega) 7 (by decide) (n : Int) (by omega) (show (n : Int) < 18446744073709551616 by omega)
 exact this.trans (by omega)
theorem or128u (m : Nat) (hm : m < 128) : Go.bits .or .u64 (m : Int) 128 = ((m + 128 : Nat) : Int) := by
 have := or_shl m 1 1 (by decide) (by omega) (by decide)
 simpa using this
theorem br_empty (W : World) (base : Nat) (hb : base ≤ W.heap.size) : BR (W.alloc (.cells #[] 5)) base (.slice (some ⟨W.heap.size, 0, none⟩) 0 0) [] :=
 Kd.R_of_own (by have := own_lit W base 5 .u8 [] hb (by simp); simpa [nums, encs] using this) (fun _ _ => trivial)
set_option maxHeartbeats 4000000 in
theorem one_is {w : World} {base : Nat} {v : Value} {xs : List Int} (hR : BR w base v xs) (hbase : base ≤ w.heap.size) (n : Nat) (hn : n < 18446744073709551616) (hroom : (xs ++ vb n).length ≤ 140737488355328) :
 Calls Try.prog 155 #[v, .int .u64 (n : Int)] w fun e w' => ∃ v', e = .returned v' ∧ BR w' base v' (xs ++ vb n) ∧ Below base w w' := by
 obtain ⟨A, c, rfl, _, _⟩ := BR.len hR
 have HR := Lib.hid hR
 have HRM := Lib.hid hroom
 obtain ⟨zs, hzs⟩ : ∃ zs, xs ++ vb n = zs := ⟨_, rfl⟩
 rw [hzs] at HRM ⊢
 have HZ := Lib.hid hzs
 clear hR hroom hzs
 go_enter Try.func155, Try.ntmps155
 go_wp2
 go_loopg [0, 1] n (fun g s0 s1 wr => ∃ (m : Nat) (ys : List Int), s1 = .int .u64 (m : Int) ∧ g = m ∧ m < 18446744073709551616 ∧ Hid (ys ++ vb m = zs) ∧ Hid (BR wr base s0 ys) ∧ Hid (Below base w wr))
 case atStart => exact ⟨n, xs, rfl, rfl, hn, HZ, HR, Lib.hid (Below.refl _ _)⟩
 case round =>
  clear HZ HR
  obtain ⟨m, ys, rfl, hg, hm, HZ, HR, HB⟩ := hrel
  obtain ⟨A1, c1, rfl, _, _⟩ := BR.len HR.out
  have hbw : base ≤ wr.heap.size := Nat.le_trans hbase HB.out.size
  by_cases hs : m < 128
  · have ht : decide (128 ≤ (m : Int)) = false := by rw [decide_eq_false_iff_not]; omega
    have hl : ys.length + 1 ≤ 140737488355328 := by have h1 := HRM.out; rw [← HZ.out, vb_small hs, List.length_append] at h1; simpa using h1
    have hz : ys ++ [(m : Int)] = zs := by rw [← HZ.out, vb_small hs]
    have HZZ := Lib.hid hz
    clear hz
    go_wp2_with (at_builtin; refine BR.push_ev (w := wr) (y := (m : Int)) HR.out rfl (.tmp 16) (.tmp 19) rfl rfl rfl hbw hl ?_; intro v5 w5 hr5 hb5 hat; rw [HZZ.out] at hr5; have HR5 := Lib.hid hr5; have HB5 := Lib.hid (HB.out.trans hb5); clear hr5 hb5 hat)
    go_ret
    exact ⟨v5, rfl, HR5.out, HB5.out⟩
  · have ht : decide (128 ≤ (m : Int)) = true := by rw [decide_eq_true_eq]; omega
    have ho : Go.bits .or .u64 (Go.bits .and .u64 (m : Int) 127) 128 = ((m % 128 + 128 : Nat) : Int) := by rw [and127u m hm, or128u _ (by omega)]
    obtain ⟨y, hy⟩ : ∃ y, ((m % 128 + 128 : Nat) : Int) = y := ⟨_, rfl⟩
    have hz : (ys ++ [y]) ++ vb (m / 128) = zs := by rw [← HZ.out, vb_great hs, ← hy, List.append_assoc]; rfl
    have hl : ys.length + 1 ≤ 140737488355328 := by have h1 := HRM.out; rw [← hz, List.length_append, List.length_append] at h1; simp only [List.length_cons, List.length_nil] at h1; omega
    rw [hy] at ho
    have hy0 : 0 ≤ y := by omega
    have hy1 : y ≤ 255 := by omega
    have HZZ := Lib.hid hz
    have hq : ((m / 128 : Nat) : Int) = (m : Int) / 128 := by omega
    have HQ := Lib.hid hq
    have hmd : m / 128 < m := by omega
    clear hz hy hq
    go_wp2_with (at_builtin; refine BR.push_ev (w := wr) (y := y) HR.out rfl (.tmp 7) (.tmp 12) rfl rfl rfl hbw hl ?_; intro v5 w5 hr5 hb5 hat; have HR5 := Lib.hid hr5; have HB5 := Lib.hid (HB.out.trans hb5); clear hr5 hb5 hat)
    go_roundg (m / 128)
    case measure => omega
    case rel => exact ⟨m / 128, ys ++ [y], by rw [HQ.out], rfl, by omega, HZZ, HR5, HB5⟩
set_option maxHeartbeats 4000000 in
theorem rput_is (A0 A1 : Option Addr) (c0 c1 : Nat) (b l : List Int) (w : World) (hb : Kd.C (Kd.int .u8) w A0 b.length b) (hl : Kd.C (Kd.int .u64) w A1 l.length l) (hU : areU64 l = true) (hroom : (b ++ vbs l).length ≤ 140737488355328) :
 Calls Try.prog 120 #[.slice A0 b.length c0, .slice A1 l.length c1] w fun e w' => ∃ v, e = .returned v ∧ BR w' w.heap.size v (b ++ vbs l) ∧ Below w.heap.size w w' := by
 have hl1 : l.length ≤ 9223372036854775807 := hl.2.1
 have HC := Lib.hid hb
 have HL := Lib.hid hl
 have HU := Lib.hid hU
 have HRM := Lib.hid hroom
 have HE := Lib.hid (br_empty w w.heap.size (Nat.le_refl _))
 have HBE := Lib.hid ((Below.refl w.heap.size w).alloc (Nat.le_refl _) (.cells #[] 5))
 have hbl : b.length ≤ 140737488355328 := by have := hroom; rw [List.length_append] at this; omega
 clear hb hl hU hroom
 go_enter Try.func120, Try.ntmps120
 go_wp2_with (at_builtin; refine BR.append_ev (w := w.alloc (.cells #[] 5)) (base := w.heap.size) HE.out (Kd.C_below HC.out HBE.out) rfl (.tmp 7) (.tmp 8) rfl rfl rfl HBE.out.size (by simp only [List.length_nil]; omega) ?_; intro v2 w2 hr2 hb2 hat; rw [List.nil_append] at hr2; have HR2 := Lib.hid hr2; have HX2 := Lib.hid (HBE.out.trans hb2); clear hr2 hb2 hat)
 go_loopg [5, 6] l.length (fun g s5 s6 wr => ∃ i : Nat, s6 = .int .i64 i ∧ i ≤ l.length ∧ g = l.length - i ∧ Hid (BR wr w.heap.size s5 (b ++ vbs (l.take i))) ∧ Hid (Below w.heap.size w wr))
 case atStart => exact ⟨0, rfl, Nat.zero_le _, rfl, Lib.hid (by simpa [vbs] using HR2.out), HX2⟩
 case round =>
  clear HR2 HX2 HE HBE
  obtain ⟨i, rfl, hi, hg, HR, HB⟩ := hrel
  obtain ⟨ys, hys⟩ : ∃ ys, b ++ vbs (l.take i) = ys := ⟨_, rfl⟩
  rw [hys] at HR
  obtain ⟨A3, c3, rfl, _, _⟩ := BR.len HR.out
  by_cases hlt : i < l.length
  · have e1 := vbs_take_succ l i hlt
    have e2 := vbs_take_le l (i + 1)
    obtain ⟨ad, ea, hc⟩ := Kd.at_int (Kd.C_below HL.out HB.out) (i : Int) (by omega) (by omega)
    subst ea
    obtain ⟨hx0, hx1⟩ := areU64_get HU.out hlt
    have hrd : rd l (i : Int) = l.getD i 0 := rfl
    rw [hrd, Int.toNat_natCast] at hc
    clear hrd
    generalize l.getD i 0 = x at e1 hc hx0 hx1
    obtain ⟨n, rfl⟩ : ∃ n : Nat, x = (n : Int) := ⟨x.toNat, by omega⟩
    rw [Int.toNat_natCast] at e1
    have hz : ys ++ vb n = b ++ vbs (l.take (i + 1)) := by rw [e1, ← hys, List.append_assoc]
    have hroom : (ys ++ vb n).length ≤ 140737488355328 := by rw [hz]; have := HRM.out; rw [List.length_append] at this ⊢; omega
    have HO := Lib.hid (one_is HR.out HB.out.size n (by omega) hroom)
    have HZ := Lib.hid hz
    clear hz hroom e1 e2 hx0 hx1 hys
    go_wp2_with (go_at_call 155; refine HO.out.mono ?_; rintro e w4 ⟨v4, rfl, hr, hb⟩; have HR4 := Lib.hid hr; have HB4 := Lib.hid (HB.out.trans hb); clear hr hb)
    go_roundg (l.length - (i + 1))
    case measure => omega
    case rel => exact ⟨i + 1, by go_num, by omega, rfl, Lib.hid (by rw [← HZ.out]; exact HR4.out), HB4⟩
  · obtain rfl : i = l.length := by omega
    rw [List.take_length] at hys
    have HYS := Lib.hid hys
    clear hys
    go_wp2
    go_ret
    exact ⟨_, rfl, by rw [HYS.out]; exact HR.out, HB.out⟩
end Go.Proofs.Ytmbnjgnmblgjoaa.Man
end
section
namespace Go.Proofs.Ytmbnjgnmblgjoaa.K
open Go.RowKit Go.Proofs.YtmbnjgnmblgjoaaW.PrintWords Go.Proofs.YtmbnjgnmblgjoaaW.PrintLast Go.Proofs.YtmbnjgnmblgjoaaW.PrintMore
attribute [local go_sem] max2_int min2_int max_two min_two max_three min_three max_four min_four
set_option linter.unusedVariables false
set_option linter.unusedSimpArgs false
def errW : Option Int → Value
 | none => .nilIface
 | some c => .iface 0 (.int .i64 c)
structure S111 where
 f0 : Int
 f1 : Int
 f2 : Int
 f3 : Int
def z111 : S111 := ⟨(0 : Int), (0 : Int), (0 : Int), (0 : Int)⟩
def k111 : Kd S111 := Kd.iso (Kd.pair (Kd.int .i64) (Kd.pair (Kd.int .i64) (Kd.pair (Kd.int .i64) (Kd.int .i64)))) (fun x : S111 => (x.f0, x.f1, x.f2, x.f3))
def rd_T111 (xs : List S111) (i : Int) : S111 := xs.getD i.toNat z111
end Go.Proofs.Ytmbnjgnmblgjoaa.K
end
section
namespace Go.Proofs.Ytmbnjgnmblgjoaa.K
open Go.RowKit Go.Proofs.YtmbnjgnmblgjoaaW.PrintWords Go.Proofs.YtmbnjgnmblgjoaaW.PrintLast Go.Proofs.YtmbnjgnmblgjoaaW.PrintMore
set_option linter.unusedVariables false
set_option linter.unusedSimpArgs false
structure S24 where
 f0 : Int
 f1 : Int
 f2 : Int
 f3 : Int
 f4 : Int
 f5 : Int
 f6 : (List S111)
 f7 : Int
def z24 : S24 := ⟨(0 : Int), (0 : Int), (0 : Int), (0 : Int), (0 : Int), (0 : Int), ([] : List S111), (0 : Int)⟩
def k24 : Kd S24 := Kd.iso (Kd.pair (Kd.int .i64) (Kd.pair (Kd.int .i64) (Kd.pair (Kd.int .i64) (Kd.pair (Kd.int .i64) (Kd.pair (Kd.int .i64) (Kd.pair (Kd.int .i64) (Kd.pair (Kd.slice 111 k111) (Kd.int .i64)))))))) (fun x : S24 => (x.f0, x.f1, x.f2, x.f3, x.f4, x.f5, x.f6, x.f7))
theorem k24_open {w : World} {x : S24} {cs : List Value} (h : k24.K w x cs) : ∃ A6 c6, cs = [.int .i64 x.f0, .int .i64 x.f1, .int .i64 x.f2, .int .i64 x.f3, .int .i64 x.f4, .int .i64 x.f5, .slice A6 x.f6.length c6, .int .i64 x.f7] ∧ x.f6.length ≤ c6 ∧ k111.C w A6 x.f6.length x.f6 := by
 obtain ⟨_, _, rfl, rfl, ⟨_, _, rfl, rfl, ⟨_, _, rfl, rfl, ⟨_, _, rfl, rfl, ⟨_, _, rfl, rfl, ⟨_, _, rfl, rfl, ⟨_, _, rfl, ⟨A6, c6, rfl, l6, g6⟩, rfl⟩⟩⟩⟩⟩⟩⟩ := h
 exact ⟨A6, c6, rfl, l6, g6⟩
def rd_T24 (xs : List S24) (i : Int) : S24 := xs.getD i.toNat z24
structure S26 where
 f0 : Int
 f1 : Int
 f2 : S24
def z26 : S26 := ⟨(0 : Int), (0 : Int), z24⟩
def k26 : Kd S26 := Kd.iso (Kd.pair (Kd.int .i64) (Kd.pair (Kd.int .i64) k24)) (fun x : S26 => (x.f0, x.f1, x.f2))
theorem k26_open {w : World} {x : S26} {cs : List Value} (h : k26.K w x cs) : ∃ A8 c8, cs = [.int .i64 x.f0, .int .i64 x.f1, .int .i64 x.f2.f0, .int .i64 x.f2.f1, .int .i64 x.f2.f2, .int .i64 x.f2.f3, .int .i64 x.f2.f4, .int .i64 x.f2.f5, .slice A8 x.f2.f6.length c8, .int .i64 x.f2.f7] ∧ x.f2.f6.length ≤ c8 ∧ k111.C w A8 x.f2.f6.length x.f2.f6 := by
 obtain ⟨_, _, rfl, rfl, ⟨_, _, rfl, rfl, s2⟩⟩ := h
 obtain ⟨A8, c8, rfl, l8, g8⟩ := k24_open s2
 exact ⟨A8, c8, rfl, l8, g8⟩
def rd_T26 (xs : List S26) (i : Int) : S26 := xs.getD i.toNat z26
theorem at_T26 {w : World} {A : Option Addr} {n : Nat} {xs : List S26} (h : Kd.C k26 w A n xs) (i : Int) (h0 : 0 ≤ i) (h1 : i < n) : ∃ ad A8 c8, A = some ad ∧ w.cell? (ad.add (i.toNat * 10)) = some (.int .i64 (rd_T26 xs i).f0) ∧ w.cell? ⟨(ad.add (i.toNat * 10)).block, (ad.add (i.toNat * 10)).off + 1, none⟩ = some (.int .i64 (rd_T26 xs i).f1) ∧ w.cell? ⟨(ad.add (i.toNat * 10)).block, (ad.add (i.toNat * 10)).off + 2, none⟩ = some (.int .i64 (rd_T26 xs i).f2.f0) ∧ w.cell? ⟨(ad.add (i.toNat * 10)).block, (ad.add (i.toNat * 10)).off + 3, none⟩ = some (.int .i64 (rd_T26 xs i).f2.f1) ∧ w.cell? ⟨(ad.add (i.toNat * 10)).block, (ad.add (i.toNat * 10)).off + 4, none⟩ = some (.int .i64 (rd_T26 xs i).f2.f2) ∧ w.cell? ⟨(ad.add (i.toNat * 10)).block, (ad.add (i.toNat * 10)).off + 5, none⟩ = some (.int .i64 (rd_T26 xs i).f2.f3) ∧ w.cell? ⟨(ad.add (i.toNat * 10)).block, (ad.add (i.toNat * 10)).off + 6, none⟩ = some (.int .i64 (rd_T26 xs i).f2.f4) ∧ w.cell? ⟨(ad.add (i.toNat * 10)).block, (ad.add (i.toNat * 10)).off + 7, none⟩ = some (.int .i64 (rd_T26 xs i).f2.f5) ∧ w.cell? ⟨(ad.add (i.toNat * 10)).block, (ad.add (i.toNat * 10)).off + 8, none⟩ = some (.slice A8 (rd_T26 xs i).f2.f6.length c8) ∧ w.cell? ⟨(ad.add (i.toNat * 10)).block, (ad.add (i.toNat * 10)).off + 9, none⟩ = some (.int .i64 (rd_T26 xs i).f2.f7) ∧ (rd_T26 xs i).f2.f6.length ≤ c8 ∧ k111.C w A8 (rd_T26 xs i).f2.f6.length (rd_T26 xs i).f2.f6 := by
 obtain ⟨ad, c, e, _, hK, hc0⟩ := Kd.C_get h z26 i h0 h1
 have hc : ∀ j u, c[j]? = some u → w.cell? (ad.add (i.toNat * 10 + j)) = some u := hc0
 obtain ⟨A8, c8, rfl, l8, g8⟩ := k26_open hK
 exact ⟨ad, A8, c8, e, hc 0 _ rfl, by rw [← add_field _ _ 1 (by omega)]; exact hc 1 _ rfl, by rw [← add_field _ _ 2 (by omega)]; exact hc 2 _ rfl, by rw [← add_field _ _ 3 (by omega)]; exact hc 3 _ rfl, by rw [← add_field _ _ 4 (by omega)]; exact hc 4 _ rfl, by rw [← add_field _ _ 5 (by omega)]; exact hc 5 _ rfl, by rw [← add_field _ _ 6 (by omega)]; exact hc 6 _ rfl, by rw [← add_field _ _ 7 (by omega)]; exact hc 7 _ rfl, by rw [← add_field _ _ 8 (by omega)]; exact hc 8 _ rfl, by rw [← add_field _ _ 9 (by omega)]; exact hc 9 _ rfl, l8, g8⟩
end Go.Proofs.Ytmbnjgnmblgjoaa.K
end
section
namespace Go.Proofs.Ytmbnjgnmblgjoaa.Man
open Go.RowKit Go.Proofs.YtmbnjgnmblgjoaaW.PrintWords Go.Proofs.YtmbnjgnmblgjoaaW.PrintLast Go.Proofs.YtmbnjgnmblgjoaaW.PrintMore
set_option linter.unusedVariables false
set_option linter.unusedSimpArgs false
set_option maxRecDepth 100000
theorem WrS.below {w w1 : World} {base B n : Nat} {xs : List Int} (h : WrS w base B xs) (hb : Below n w w1) (hn : w.heap.size ≤ n) : WrS w1 base B xs := by
 obtain ⟨v, k, r⟩ := h.ex
 exact ⟨v, k.below hb hn, Kd.R_below r (hb.mono hn)⟩
theorem vb_le10 (n : Nat) (hn : n < 9223372036854775808) : (vb n).length ≤ 10 := vb_le_ten (by omega)
def tokB (x : K.S111) : List Int := vb (x.f0 + 4 * x.f2).toNat ++ (if x.f0 = 0 then vb x.f3.toNat else if x.f0 = 1 ∨ x.f0 = 3 then vb x.f1.toNat else [])
def docB (l : List K.S111) : List Int := vb l.length ++ l.flatMap tokB
def TokOk (x : K.S111) : Prop := 0 ≤ x.f0 ∧ x.f0 ≤ 3 ∧ 0 ≤ x.f1 ∧ x.f1 < 2147483648 ∧ 0 ≤ x.f2 ∧ x.f2 < 2147483648 ∧ 0 ≤ x.f3 ∧ x.f3 < 2147483648
def TokAt (w : World) (P : Nat) (x : K.S111) : Prop := w.heap[P]? = some (.cells #[.int .i64 x.f0, .int .i64 x.f1, .int .i64 x.f2, .int .i64 x.f3] 111 (0, 0))
theorem TokAt.c0 {w : World} {P : Nat} {x : K.S111} (k : TokAt w P x) : w.cell? ⟨P, 0, none⟩ = some (.int .i64 x.f0) := by simp [World.cell?, show w.heap[P]? = _ from k]
theorem TokAt.c1 {w : World} {P : Nat} {x : K.S111} (k : TokAt w P x) : w.cell? ⟨P, 1, none⟩ = some (.int .i64 x.f1) := by simp [World.cell?, show w.heap[P]? = _ from k]
theorem TokAt.c2 {w : World} {P : Nat} {x : K.S111} (k : TokAt w P x) : w.cell? ⟨P, 2, none⟩ = some (.int .i64 x.f2) := by simp [World.cell?, show w.heap[P]? = _ from k]
theorem TokAt.lt {w : World} {P : Nat} {x : K.S111} (k : TokAt w P x) : P < w.heap.size := (Array.getElem?_eq_some_iff.1 k).1
end Go.Proofs.Ytmbnjgnmblgjoaa.Man
end
section
namespace Go.Proofs.Ytmbnjgnmblgjoaa.Man
open Go.RowKit Go.Proofs.YtmbnjgnmblgjoaaW.PrintWords Go.Proofs.YtmbnjgnmblgjoaaW.PrintLast Go.Proofs.YtmbnjgnmblgjoaaW.PrintMore
set_option linter.unusedVariables false
set_option linter.unusedSimpArgs false
set_option maxRecDepth 100000
theorem vbs_le (l : List Int) (h : ∀ i, i < l.length → 0 ≤ l.getD i 0 ∧ l.getD i 0 < 9223372036854775808) : (vbs l).length ≤ 10 * l.length := by
 induction l with
 | nil => simp [vbs]
 | cons a l ih =>
  have h0 := h 0 (by simp)
  have h1 := ih fun i hi => by have := h (i + 1) (by simpa using hi); simpa using this
  simp only [List.getD_cons_zero] at h0
  have h2 := vb_le10 a.toNat (by omega)
  have e : vbs (a :: l) = vb a.toNat ++ vbs l := rfl
  rw [e, List.length_append, List.length_cons]
  omega
def entryB (x : K.S26) : List Int :=
 vbs [x.f0, x.f1, x.f2.f0, x.f2.f1, x.f2.f2] ++ (if x.f2.f0 = 2 ∨ x.f2.f0 = 3 then vbs [x.f2.f7] else if x.f2.f0 = 1 then vbs [x.f2.f3, x.f2.f4, x.f2.f5] ++ docB x.f2.f6 else docB x.f2.f6)
structure EntOk (x : K.S26) : Prop where
 who : 0 ≤ x.f0 ∧ x.f0 < 2147483648
 seq : 0 ≤ x.f1 ∧ x.f1 < 2147483648
 k : 0 ≤ x.f2.f0 ∧ x.f2.f0 ≤ 3
 from_ : 0 ≤ x.f2.f1 ∧ x.f2.f1 < 2147483648
 to_ : 0 ≤ x.f2.f2 ∧ x.f2.f2 < 2147483648
 gf : 0 ≤ x.f2.f3 ∧ x.f2.f3 < 2147483648
 gt : 0 ≤ x.f2.f4 ∧ x.f2.f4 < 2147483648
 ins : 0 ≤ x.f2.f5 ∧ x.f2.f5 < 2147483648
 mark : 0 ≤ x.f2.f7 ∧ x.f2.f7 < 2147483648
 len : x.f2.f6.length ≤ 2048
 toks : ∀ t ∈ x.f2.f6, TokOk t
def StepAt (w : World) (P : Nat) (k f t gf gt ins : Int) (A : Option Addr) (n c : Nat) (m : Int) : Prop := w.heap[P]? = some (.cells #[.int .i64 k, .int .i64 f, .int .i64 t, .int .i64 gf, .int .i64 gt, .int .i64 ins, .slice A n c, .int .i64 m] 24 (0, 0))
theorem StepAt.c0 {w : World} {P n c : Nat} {k f t gf gt ins m : Int} {A : Option Addr} (h : StepAt w P k f t gf gt ins A n c m) : w.cell? ⟨P, 0, none⟩ = some (.int .i64 k) := by simp [World.cell?, show w.heap[P]? = _ from h]
theorem StepAt.c4 {w : World} {P n c : Nat} {k f t gf gt ins m : Int} {A : Option Addr} (h : StepAt w P k f t gf gt ins A n c m) : w.cell? ⟨P, 4, none⟩ = some (.int .i64 gt) := by simp [World.cell?, show w.heap[P]? = _ from h]
theorem StepAt.c5 {w : World} {P n c : Nat} {k f t gf gt ins m : Int} {A : Option Addr} (h : StepAt w P k f t gf gt ins A n c m) : w.cell? ⟨P, 5, none⟩ = some (.int .i64 ins) := by simp [World.cell?, show w.heap[P]? = _ from h]
theorem StepAt.c6 {w : World} {P n c : Nat} {k f t gf gt ins m : Int} {A : Option Addr} (h : StepAt w P k f t gf gt ins A n c m) : w.cell? ⟨P, 6, none⟩ = some (.slice A n c) := by simp [World.cell?, show w.heap[P]? = _ from h]
theorem StepAt.c7 {w : World} {P n c : Nat} {k f t gf gt ins m : Int} {A : Option Addr} (h : StepAt w P k f t gf gt ins A n c m) : w.cell? ⟨P, 7, none⟩ = some (.int .i64 m) := by simp [World.cell?, show w.heap[P]? = _ from h]
theorem StepAt.lt {w : World} {P n c : Nat} {k f t gf gt ins m : Int} {A : Option Addr} (h : StepAt w P k f t gf gt ins A n c m) : P < w.heap.size := (Array.getElem?_eq_some_iff.1 h).1
theorem StepAt.grown {w w1 : World} {P n c B : Nat} {k f t gf gt ins m : Int} {A : Option Addr} (h : StepAt w P k f t gf gt ins A n c m) (hg : w.grownBy w1 (some B)) (hB : B < P) : StepAt w1 P k f t gf gt ins A n c m :=
 (hg.block _ h.lt (by intro e; cases e; omega)).trans h
end Go.Proofs.Ytmbnjgnmblgjoaa.Man
end
section
namespace Go.Proofs.Ytmbnjgnmblgjoaa.K
open Go.RowKit Go.Proofs.YtmbnjgnmblgjoaaW.PrintWords Go.Proofs.YtmbnjgnmblgjoaaW.PrintLast Go.Proofs.YtmbnjgnmblgjoaaW.PrintMore
attribute [local go_sem] max2_int min2_int max_two min_two max_three min_three max_four min_four
set_option linter.unusedVariables false
set_option linter.unusedSimpArgs false
theorem eqA111 (d : Nat) (w : World) (x0 y0 : Int) (x1 y1 : Int) (x2 y2 : Int) (x3 y3 : Int) :
 (Op.equalIn (d + 2) 111 (.agg #[.int .i64 x0, .int .i64 x1, .int .i64 x2, .int .i64 x3]) (.agg #[.int .i64 y0, .int .i64 y1, .int .i64 y2, .int .i64 y3])).run Try.prog w = .ok (x0 == y0 && (x1 == y1 && (x2 == y2 && (x3 == y3)))) w := by
 refine eqA_of Try.underlying111 (by kernel_rfl) ?_
 refine eqf_cons (by rfl) (by go_simp; rfl) (by go_simp; rfl) (by go_simp) ?_
 refine eqf_cons (by rfl) (by go_simp; rfl) (by go_simp; rfl) (by go_simp) ?_
 refine eqf_cons (by rfl) (by go_simp; rfl) (by go_simp; rfl) (by go_simp) ?_
 exact eqf_last (by rfl) (by go_simp; rfl) (by go_simp; rfl) (by go_simp)
end Go.Proofs.Ytmbnjgnmblgjoaa.K
end
section
namespace Go.Proofs.Ytmbnjgnmblgjoaa.K
open Go.RowKit Go.Proofs.YtmbnjgnmblgjoaaW.PrintWords Go.Proofs.YtmbnjgnmblgjoaaW.PrintLast Go.Proofs.YtmbnjgnmblgjoaaW.PrintMore
attribute [local go_sem] max2_int min2_int max_two min_two max_three min_three max_four min_four
set_option linter.unusedVariables false
set_option linter.unusedSimpArgs false
attribute [local go_sem high] eqA111
def mark_Right.f (a0 : Int) : Option (Bool) := if a0 ≥ 0 then (some (decide (a0 ≤ 4))) else (some false)
def flat_Right.f (a0_0 : Int) (a0_1 : Int) (a0_2 : Int) (a0_3 : Int) : Option (Bool) := if a0_0 = 0 then (if a0_1 = 0 then (if a0_2 ≥ 0 then (if a0_2 ≤ 1114111 then (if (a0_2 / 2048) = 27 then (some false) else ((mark_Right.f a0_3).bind fun t102 => (some t102))) else (some false)) else (some false)) else (some false)) else (if a0_0 = 2 then (some (a0_0 == 2 && (a0_1 == 0 && (a0_2 == 0 && (a0_3 == 0))))) else (if a0_0 = 1 then (if a0_1 > 0 then (if a0_1 < 16 then (if a0_2 ≥ 0 then (if a0_2 < 16 then (some (a0_3 == 0)) else (some false)) else (some false)) else (some false)) else (some false)) else (if a0_0 = 3 then (if a0_1 > 0 then (if a0_1 < 16 then (if a0_2 ≥ 0 then (if a0_2 < 16 then (some (a0_3 == 0)) else (some false)) else (some false)) else (some false)) else (some false)) else (some false))))
def mark_place.l0 : Nat → Int → Int → Option (Int)
 | 0, _, _ => none
 | k + 1, x0, x3 => if x3 < 3 then (if 0 ≤ x3 then (if x0 = (shl .i64 1 x3) then (some x3) else (mark_place.l0 k x0 (wrap64 (x3 + 1)))) else (none)) else (some 3)
def mark_place.f (k : Nat) (a0 : Int) : Option (Int) := mark_place.l0 k a0 0
theorem mark_place.mono_l : ∀ k, (∀ y0 y1, LeO (mark_place.l0 k y0 y1) (mark_place.l0 (k + 1) y0 y1))
 | 0 => fun _ _ r h => by simp [mark_place.l0] at h
 | k + 1 => by
  have ih0 := mark_place.mono_l k
  · intro y0 y1
    unfold mark_place.l0
    repeat' first
    | (with_reducible exact ih0 _ _)
    | (with_reducible exact LeO.refl _)
    | (with_reducible exact LeO.none _)
    | (with_reducible refine LeO.ite ?_ ?_)
    | (with_reducible refine LeO.bind ?_ (fun _ => ?_))
    | exact ih0 _ _
    | exact LeO.none _
    | refine LeO.ite ?_ ?_
    | refine LeO.bind ?_ (fun _ => ?_)
theorem mark_place.mono : ∀ a0 k, LeO (mark_place.f k a0) (mark_place.f (k + 1) a0) := by
 intro a0 k
 have ih0 := mark_place.mono_l k
 unfold mark_place.f
 repeat' first
  | (with_reducible exact ih0 _ _)
  | (with_reducible exact LeO.refl _)
  | (with_reducible exact LeO.none _)
  | (with_reducible refine LeO.ite ?_ ?_)
  | (with_reducible refine LeO.bind ?_ (fun _ => ?_))
  | exact ih0 _ _
  | exact LeO.none _
  | refine LeO.ite ?_ ?_
  | refine LeO.bind ?_ (fun _ => ?_)
def mark_may.f (k : Nat) (a0 : Int) (a1 : Int) : Option (Int) := (mark_place.f k a1).bind fun t103 => (if t103 = 3 then (some 1) else ((mark_Right.f a0).bind fun t104 => (if t104 = true then (some 0) else (some 4))))
theorem mark_may.mono : ∀ a0 a1 k, LeO (mark_may.f k a0 a1) (mark_may.f (k + 1) a0 a1) := by
 intro a0 a1 k
 unfold mark_may.f
 repeat' first
  | (with_reducible exact mark_place.mono _ _)
  | (with_reducible exact LeO.refl _)
  | (with_reducible exact LeO.none _)
  | (with_reducible refine LeO.ite ?_ ?_)
  | (with_reducible refine LeO.bind ?_ (fun _ => ?_))
  | exact mark_place.mono _ _
  | exact LeO.none _
  | refine LeO.ite ?_ ?_
  | refine LeO.bind ?_ (fun _ => ?_)
def mark_Has.f (k : Nat) (a0 : Int) (a1 : Int) : Option (Bool) := (mark_may.f k a0 a1).bind fun t105 => (if t105 = 0 then (some ((Go.bits .and .i64 a0 a1) != 0)) else (some false))
theorem mark_Has.mono : ∀ a0 a1 k, LeO (mark_Has.f k a0 a1) (mark_Has.f (k + 1) a0 a1) := by
 intro a0 a1 k
 unfold mark_Has.f
 repeat' first
  | (with_reducible exact mark_may.mono _ _ _)
  | (with_reducible exact LeO.refl _)
  | (with_reducible exact LeO.none _)
  | (with_reducible refine LeO.ite ?_ ?_)
  | (with_reducible refine LeO.bind ?_ (fun _ => ?_))
  | exact mark_may.mono _ _ _
  | exact LeO.none _
  | refine LeO.ite ?_ ?_
  | refine LeO.bind ?_ (fun _ => ?_)
def mark_List.l0 : Nat → Int → List Int → Int → Option (List Int)
 | 0, _, _, _ => none
 | k + 1, x0, x3, x4 => if x4 < 3 then (if 0 ≤ x4 then ((mark_Has.f k x0 (shl .i64 1 x4)).bind fun t106 => (if t106 = true then (if x3.length < 17592186044416 then (mark_List.l0 k x0 (x3 ++ [shl .i64 1 x4]) (wrap64 (x4 + 1))) else (none)) else (mark_List.l0 k x0 x3 (wrap64 (x4 + 1))))) else (none)) else (some x3)
def mark_List.f (k : Nat) (a0 : Int) : Option (List Int) := mark_List.l0 k a0 ([] : List Int) 0
theorem mark_List.mono_l : ∀ k, (∀ y0 y1 y2, LeO (mark_List.l0 k y0 y1 y2) (mark_List.l0 (k + 1) y0 y1 y2))
 | 0 => fun _ _ _ r h => by simp [mark_List.l0] at h
 | k + 1 => by
  have ih0 := mark_List.mono_l k
  · intro y0 y1 y2
    unfold mark_List.l0
    repeat' first
    | (with_reducible exact ih0 _ _ _)
    | (with_reducible exact mark_Has.mono _ _ _)
    | (with_reducible exact LeO.refl _)
    | (with_reducible exact LeO.none _)
    | (with_reducible refine LeO.ite ?_ ?_)
    | (with_reducible refine LeO.bind ?_ (fun _ => ?_))
    | exact ih0 _ _ _
    | exact mark_Has.mono _ _ _
    | exact LeO.none _
    | refine LeO.ite ?_ ?_
    | refine LeO.bind ?_ (fun _ => ?_)
theorem mark_List.mono : ∀ a0 k, LeO (mark_List.f k a0) (mark_List.f (k + 1) a0) := by
 intro a0 k
 have ih0 := mark_List.mono_l k
 unfold mark_List.f
 repeat' first
  | (with_reducible exact ih0 _ _ _)
  | (with_reducible exact mark_Has.mono _ _ _)
  | (with_reducible exact LeO.refl _)
  | (with_reducible exact LeO.none _)
  | (with_reducible refine LeO.ite ?_ ?_)
  | (with_reducible refine LeO.bind ?_ (fun _ => ?_))
  | exact ih0 _ _ _
  | exact mark_Has.mono _ _ _
  | exact LeO.none _
  | refine LeO.ite ?_ ?_
  | refine LeO.bind ?_ (fun _ => ?_)
end Go.Proofs.Ytmbnjgnmblgjoaa.K
end
section
namespace Go.Proofs.Ytmbnjgnmblgjoaa.K
open Go.RowKit Go.Proofs.YtmbnjgnmblgjoaaW.PrintWords Go.Proofs.YtmbnjgnmblgjoaaW.PrintLast Go.Proofs.YtmbnjgnmblgjoaaW.PrintMore
attribute [local go_sem] max2_int min2_int max_two min_two max_three min_three max_four min_four
set_option linter.unusedVariables false
set_option linter.unusedSimpArgs false
mutual
def step_Check.j0 : Nat → Bool → Int → Int → Int → Int → Int → Int → List (S111) → Int → Int → Int → Int → Int → Int → Int → Int → Option (Int)
 | 0, _, _, _, _, _, _, _, _, _, _, _, _, _, _, _, _ => none
 | k + 1, x4, x111000, x111001, x111002, x111003, x111004, x111005, x111006, x111007, x112000, x112001, x112002, x112003, x112004, x112005, x112007 => if x111000 = 1 then (if x4 = true then (if x111001 ≤ x111003 then (if x111003 < x111004 then (if x111004 ≤ x111002 then (if x111005 ≥ 0 then (if x111005 ≤ (x111006.length : Int) then (step_Check.j1 k (x112007 == 0) x111000 x111001 x111002 x111003 x111004 x111005 x111006 x111007 x112000 x112001 x112002 0 0 0 x112007) else (step_Check.j1 k false x111000 x111001 x111002 x111003 x111004 x111005 x111006 x111007 x112000 x112001 x112002 0 0 0 x112007)) else (step_Check.j1 k false x111000 x111001 x111002 x111003 x111004 x111005 x111006 x111007 x112000 x112001 x112002 0 0 0 x112007)) else (step_Check.j1 k false x111000 x111001 x111002 x111003 x111004 x111005 x111006 x111007 x112000 x112001 x112002 0 0 0 x112007)) else (step_Check.j1 k false x111000 x111001 x111002 x111003 x111004 x111005 x111006 x111007 x112000 x112001 x112002 0 0 0 x112007)) else (step_Check.j1 k false x111000 x111001 x111002 x111003 x111004 x111005 x111006 x111007 x112000 x112001 x112002 0 0 0 x112007)) else (step_Check.j1 k false x111000 x111001 x111002 x111003 x111004 x111005 x111006 x111007 x112000 x112001 x112002 0 0 0 x112007)) else (if x111000 = 0 then (if x4 = true then (step_Check.j1 k (x112007 == 0) x111000 x111001 x111002 x111003 x111004 x111005 x111006 x111007 x112000 x112001 x112002 x112003 x112004 x112005 x112007) else (step_Check.j1 k false x111000 x111001 x111002 x111003 x111004 x111005 x111006 x111007 x112000 x112001 x112002 x112003 x112004 x112005 x112007)) else (if x111000 = 2 then (if x4 = true then (if x111001 < x111002 then ((mark_List.f k x111007).bind fun t112 => (if (t112.length : Int) = 1 then (step_Check.j1 k ((x111006.length : Int) == 0) x111000 x111001 x111002 x111003 x111004 x111005 x111006 x111007 x112000 x112001 x112002 x112003 x112004 x112005 x112007) else (step_Check.j1 k false x111000 x111001 x111002 x111003 x111004 x111005 x111006 x111007 x112000 x112001 x112002 x112003 x112004 x112005 x112007))) else (step_Check.j1 k false x111000 x111001 x111002 x111003 x111004 x111005 x111006 x111007 x112000 x112001 x112002 x112003 x112004 x112005 x112007)) else (step_Check.j1 k false x111000 x111001 x111002 x111003 x111004 x111005 x111006 x111007 x112000 x112001 x112002 x112003 x112004 x112005 x112007)) else (if x111000 = 3 then (if x4 = true then (if x111001 < x111002 then ((mark_List.f k x111007).bind fun t115 => (if (t115.length : Int) = 1 then (step_Check.j1 k ((x111006.length : Int) == 0) x111000 x111001 x111002 x111003 x111004 x111005 x111006 x111007 x112000 x112001 x112002 x112003 x112004 x112005 x112007) else (step_Check.j1 k false x111000 x111001 x111002 x111003 x111004 x111005 x111006 x111007 x112000 x112001 x112002 x112003 x112004 x112005 x112007))) else (step_Check.j1 k false x111000 x111001 x111002 x111003 x111004 x111005 x111006 x111007 x112000 x112001 x112002 x112003 x112004 x112005 x112007)) else (step_Check.j1 k false x111000 x111001 x111002 x111003 x111004 x111005 x111006 x111007 x112000 x112001 x112002 x112003 x112004 x112005 x112007)) else (step_Check.j1 k false x111000 x111001 x111002 x111003 x111004 x111005 x111006 x111007 x112000 x112001 x112002 x112003 x112004 x112005 x112007))))
def step_Check.j1 : Nat → Bool → Int → Int → Int → Int → Int → Int → List (S111) → Int → Int → Int → Int → Int → Int → Int → Int → Option (Int)
 | 0, _, _, _, _, _, _, _, _, _, _, _, _, _, _, _, _ => none
 | k + 1, x4, x111000, x111001, x111002, x111003, x111004, x111005, x111006, x111007, x112000, x112001, x112002, x112003, x112004, x112005, x112007 => if x4 = true then (if x112003 = 0 then (if x112004 = 0 then (step_Check.j2 k (x112005 == 0) x111000 x111001 x111002 x111003 x111004 x111005 x111006 x111007) else (step_Check.j2 k false x111000 x111001 x111002 x111003 x111004 x111005 x111006 x111007)) else (step_Check.j2 k false x111000 x111001 x111002 x111003 x111004 x111005 x111006 x111007)) else (step_Check.j2 k false x111000 x111001 x111002 x111003 x111004 x111005 x111006 x111007)
def step_Check.j2 : Nat → Bool → Int → Int → Int → Int → Int → Int → List (S111) → Int → Option (Int)
 | 0, _, _, _, _, _, _, _, _, _ => none
 | k + 1, x4, x111000, x111001, x111002, x111003, x111004, x111005, x111006, x111007 => step_Check.l0 k x4 x111006 (x111006.length : Int) 0
def step_Check.l0 : Nat → Bool → List (S111) → Int → Int → Option (Int)
 | 0, _, _, _, _ => none
 | k + 1, x4, x121, x122, x123 => if x123 < x122 then (if 0 ≤ x123 then (if x123 < (x121.length : Int) then (if x4 = true then ((flat_Right.f ((rd_T111 x121 x123).f0) ((rd_T111 x121 x123).f1) ((rd_T111 x121 x123).f2) ((rd_T111 x121 x123).f3)).bind fun t120 => (step_Check.l0 k t120 x121 x122 (wrap64 (x123 + 1)))) else (step_Check.l0 k false x121 x122 (wrap64 (x123 + 1)))) else (none)) else (none)) else (if x4 = true then (some 0) else (some 1))
end
def step_Check.f (k : Nat) (a0_0 : Int) (a0_1 : Int) (a0_2 : Int) (a0_3 : Int) (a0_4 : Int) (a0_5 : Int) (l0_6 : List (S111)) (a0_7 : Int) : Option (Int) := if (l0_6.length : Int) > 2048 then (some 2) else (if a0_1 ≥ 0 then (if a0_1 ≤ a0_2 then (step_Check.j0 k (decide (a0_2 ≤ 2048)) a0_0 a0_1 a0_2 a0_3 a0_4 a0_5 l0_6 a0_7 a0_0 0 0 a0_3 a0_4 a0_5 a0_7) else (step_Check.j0 k false a0_0 a0_1 a0_2 a0_3 a0_4 a0_5 l0_6 a0_7 a0_0 0 0 a0_3 a0_4 a0_5 a0_7)) else (step_Check.j0 k false a0_0 a0_1 a0_2 a0_3 a0_4 a0_5 l0_6 a0_7 a0_0 0 0 a0_3 a0_4 a0_5 a0_7))
theorem step_Check.mono_l : ∀ k, (∀ y0 y1 y2 y3 y4 y5 y6 y7 y8 y9 y10 y11 y12 y13 y14 y15, LeO (step_Check.j0 k y0 y1 y2 y3 y4 y5 y6 y7 y8 y9 y10 y11 y12 y13 y14 y15) (step_Check.j0 (k + 1) y0 y1 y2 y3 y4 y5 y6 y7 y8 y9 y10 y11 y12 y13 y14 y15)) ∧ (∀ y0 y1 y2 y3 y4 y5 y6 y7 y8 y9 y10 y11 y12 y13 y14 y15, LeO (step_Check.j1 k y0 y1 y2 y3 y4 y5 y6 y7 y8 y9 y10 y11 y12 y13 y14 y15) (step_Check.j1 (k + 1) y0 y1 y2 y3 y4 y5 y6 y7 y8 y9 y10 y11 y12 y13 y14 y15)) ∧ (∀ y0 y1 y2 y3 y4 y5 y6 y7 y8, LeO (step_Check.j2 k y0 y1 y2 y3 y4 y5 y6 y7 y8) (step_Check.j2 (k + 1) y0 y1 y2 y3 y4 y5 y6 y7 y8)) ∧ (∀ y0 y1 y2 y3, LeO (step_Check.l0 k y0 y1 y2 y3) (step_Check.l0 (k + 1) y0 y1 y2 y3))
 | 0 => ⟨fun _ _ _ _ _ _ _ _ _ _ _ _ _ _ _ _ r h => by simp [step_Check.j0] at h, fun _ _ _ _ _ _ _ _ _ _ _ _ _ _ _ _ r h => by simp [step_Check.j1] at h, fun _ _ _ _ _ _ _ _ _ r h => by simp [step_Check.j2] at h, fun _ _ _ _ r h => by simp [step_Check.l0] at h⟩
 | k + 1 => by
  obtain ⟨ih0, ih1, ih2, ih3⟩ := step_Check.mono_l k
  refine ⟨?_, ?_, ?_, ?_⟩
  · intro y0 y1 y2 y3 y4 y5 y6 y7 y8 y9 y10 y11 y12 y13 y14 y15
    unfold step_Check.j0
    repeat' first
    | (with_reducible exact ih0 _ _ _ _ _ _ _ _ _ _ _ _ _ _ _ _)
    | (with_reducible exact ih1 _ _ _ _ _ _ _ _ _ _ _ _ _ _ _ _)
    | (with_reducible exact ih2 _ _ _ _ _ _ _ _ _)
    | (with_reducible exact ih3 _ _ _ _)
    | (with_reducible exact mark_List.mono _ _)
    | (with_reducible exact LeO.refl _)
    | (with_reducible exact LeO.none _)
    | (with_reducible refine LeO.ite ?_ ?_)
    | (with_reducible refine LeO.bind ?_ (fun _ => ?_))
    | exact ih0 _ _ _ _ _ _ _ _ _ _ _ _ _ _ _ _
    | exact ih1 _ _ _ _ _ _ _ _ _ _ _ _ _ _ _ _
    | exact ih2 _ _ _ _ _ _ _ _ _
    | exact ih3 _ _ _ _
    | exact mark_List.mono _ _
    | exact LeO.none _
    | refine LeO.ite ?_ ?_
    | refine LeO.bind ?_ (fun _ => ?_)
  · intro y0 y1 y2 y3 y4 y5 y6 y7 y8 y9 y10 y11 y12 y13 y14 y15
    unfold step_Check.j1
    repeat' first
    | (with_reducible exact ih0 _ _ _ _ _ _ _ _ _ _ _ _ _ _ _ _)
    | (with_reducible exact ih1 _ _ _ _ _ _ _ _ _ _ _ _ _ _ _ _)
    | (with_reducible exact ih2 _ _ _ _ _ _ _ _ _)
    | (with_reducible exact ih3 _ _ _ _)
    | (with_reducible exact mark_List.mono _ _)
    | (with_reducible exact LeO.refl _)
    | (with_reducible exact LeO.none _)
    | (with_reducible refine LeO.ite ?_ ?_)
    | (with_reducible refine LeO.bind ?_ (fun _ => ?_))
    | exact ih0 _ _ _ _ _ _ _ _ _ _ _ _ _ _ _ _
    | exact ih1 _ _ _ _ _ _ _ _ _ _ _ _ _ _ _ _
    | exact ih2 _ _ _ _ _ _ _ _ _
    | exact ih3 _ _ _ _
    | exact mark_List.mono _ _
    | exact LeO.none _
    | refine LeO.ite ?_ ?_
    | refine LeO.bind ?_ (fun _ => ?_)
  · intro y0 y1 y2 y3 y4 y5 y6 y7 y8
    unfold step_Check.j2
    repeat' first
    | (with_reducible exact ih0 _ _ _ _ _ _ _ _ _ _ _ _ _ _ _ _)
    | (with_reducible exact ih1 _ _ _ _ _ _ _ _ _ _ _ _ _ _ _ _)
    | (with_reducible exact ih2 _ _ _ _ _ _ _ _ _)
    | (with_reducible exact ih3 _ _ _ _)
    | (with_reducible exact mark_List.mono _ _)
    | (with_reducible exact LeO.refl _)
    | (with_reducible exact LeO.none _)
    | (with_reducible refine LeO.ite ?_ ?_)
    | (with_reducible refine LeO.bind ?_ (fun _ => ?_))
    | exact ih0 _ _ _ _ _ _ _ _ _ _ _ _ _ _ _ _
    | exact ih1 _ _ _ _ _ _ _ _ _ _ _ _ _ _ _ _
    | exact ih2 _ _ _ _ _ _ _ _ _
    | exact ih3 _ _ _ _
    | exact mark_List.mono _ _
    | exact LeO.none _
    | refine LeO.ite ?_ ?_
    | refine LeO.bind ?_ (fun _ => ?_)
  · intro y0 y1 y2 y3
    unfold step_Check.l0
    repeat' first
    | (with_reducible exact ih0 _ _ _ _ _ _ _ _ _ _ _ _ _ _ _ _)
    | (with_reducible exact ih1 _ _ _ _ _ _ _ _ _ _ _ _ _ _ _ _)
    | (with_reducible exact ih2 _ _ _ _ _ _ _ _ _)
    | (with_reducible exact ih3 _ _ _ _)
    | (with_reducible exact mark_List.mono _ _)
    | (with_reducible exact LeO.refl _)
    | (with_reducible exact LeO.none _)
    | (with_reducible refine LeO.ite ?_ ?_)
    | (with_reducible refine LeO.bind ?_ (fun _ => ?_))
    | exact ih0 _ _ _ _ _ _ _ _ _ _ _ _ _ _ _ _
    | exact ih1 _ _ _ _ _ _ _ _ _ _ _ _ _ _ _ _
    | exact ih2 _ _ _ _ _ _ _ _ _
    | exact ih3 _ _ _ _
    | exact mark_List.mono _ _
    | exact LeO.none _
    | refine LeO.ite ?_ ?_
    | refine LeO.bind ?_ (fun _ => ?_)
theorem step_Check.mono : ∀ a0 a1 a2 a3 a4 a5 a6 a7 k, LeO (step_Check.f k a0 a1 a2 a3 a4 a5 a6 a7) (step_Check.f (k + 1) a0 a1 a2 a3 a4 a5 a6 a7) := by
 intro a0 a1 a2 a3 a4 a5 a6 a7 k
 obtain ⟨ih0, ih1, ih2, ih3⟩ := step_Check.mono_l k
 unfold step_Check.f
 repeat' first
  | (with_reducible exact ih0 _ _ _ _ _ _ _ _ _ _ _ _ _ _ _ _)
  | (with_reducible exact ih1 _ _ _ _ _ _ _ _ _ _ _ _ _ _ _ _)
  | (with_reducible exact ih2 _ _ _ _ _ _ _ _ _)
  | (with_reducible exact ih3 _ _ _ _)
  | (with_reducible exact mark_List.mono _ _)
  | (with_reducible exact LeO.refl _)
  | (with_reducible exact LeO.none _)
  | (with_reducible refine LeO.ite ?_ ?_)
  | (with_reducible refine LeO.bind ?_ (fun _ => ?_))
  | exact ih0 _ _ _ _ _ _ _ _ _ _ _ _ _ _ _ _
  | exact ih1 _ _ _ _ _ _ _ _ _ _ _ _ _ _ _ _
  | exact ih2 _ _ _ _ _ _ _ _ _
  | exact ih3 _ _ _ _
  | exact mark_List.mono _ _
  | exact LeO.none _
  | refine LeO.ite ?_ ?_
  | refine LeO.bind ?_ (fun _ => ?_)
end Go.Proofs.Ytmbnjgnmblgjoaa.K
end
section
namespace Go.Proofs.Ytmbnjgnmblgjoaa.K
open Go.RowKit Go.Proofs.YtmbnjgnmblgjoaaW.PrintWords Go.Proofs.YtmbnjgnmblgjoaaW.PrintLast Go.Proofs.YtmbnjgnmblgjoaaW.PrintMore
attribute [local go_sem] max2_int min2_int max_two min_two max_three min_three max_four min_four
set_option linter.unusedVariables false
set_option linter.unusedSimpArgs false
def codec_entry.f (k : Nat) (a0_0 : Int) (a0_1 : Int) (a0_2 : Int) (a0_3 : Int) (a0_4 : Int) (a0_5 : Int) (a0_6 : Int) (a0_7 : Int) (l0_8 : List (S111)) (a0_9 : Int) : Option (Int) := if (mn a0_0 a0_1) < 0 then (some 1) else (if a0_0 ≥ 4 then (some 1) else (if a0_1 > 2147483647 then (some 1) else ((step_Check.f k a0_2 a0_3 a0_4 a0_5 a0_6 a0_7 l0_8 a0_9).bind fun t122 => (some t122))))
theorem codec_entry.mono : ∀ a0 a1 a2 a3 a4 a5 a6 a7 a8 a9 k, LeO (codec_entry.f k a0 a1 a2 a3 a4 a5 a6 a7 a8 a9) (codec_entry.f (k + 1) a0 a1 a2 a3 a4 a5 a6 a7 a8 a9) := by
 intro a0 a1 a2 a3 a4 a5 a6 a7 a8 a9 k
 unfold codec_entry.f
 repeat' first
  | (with_reducible exact step_Check.mono _ _ _ _ _ _ _ _ _)
  | (with_reducible exact LeO.refl _)
  | (with_reducible exact LeO.none _)
  | (with_reducible refine LeO.ite ?_ ?_)
  | (with_reducible refine LeO.bind ?_ (fun _ => ?_))
  | exact step_Check.mono _ _ _ _ _ _ _ _ _
  | exact LeO.none _
  | refine LeO.ite ?_ ?_
  | refine LeO.bind ?_ (fun _ => ?_)
def codec_doc.l0 : Nat → List (S111) → Int → Int → Option (Int)
 | 0, _, _, _ => none
 | k + 1, x8, x9, x10 => if x10 < x9 then (if 0 ≤ x10 then (if x10 < (x8.length : Int) then ((flat_Right.f ((rd_T111 x8 x10).f0) ((rd_T111 x8 x10).f1) ((rd_T111 x8 x10).f2) ((rd_T111 x8 x10).f3)).bind fun t125 => (if t125 = true then (codec_doc.l0 k x8 x9 (wrap64 (x10 + 1))) else (some 1))) else (none)) else (none)) else (some 0)
def codec_doc.f (k : Nat) (l0 : List (S111)) : Option (Int) := if (l0.length : Int) > 2048 then (some 2) else (codec_doc.l0 k l0 (l0.length : Int) 0)
theorem codec_doc.mono_l : ∀ k, (∀ y0 y1 y2, LeO (codec_doc.l0 k y0 y1 y2) (codec_doc.l0 (k + 1) y0 y1 y2))
 | 0 => fun _ _ _ r h => by simp [codec_doc.l0] at h
 | k + 1 => by
  have ih0 := codec_doc.mono_l k
  · intro y0 y1 y2
    unfold codec_doc.l0
    repeat' first
    | (with_reducible exact ih0 _ _ _)
    | (with_reducible exact LeO.refl _)
    | (with_reducible exact LeO.none _)
    | (with_reducible refine LeO.ite ?_ ?_)
    | (with_reducible refine LeO.bind ?_ (fun _ => ?_))
    | exact ih0 _ _ _
    | exact LeO.none _
    | refine LeO.ite ?_ ?_
    | refine LeO.bind ?_ (fun _ => ?_)
theorem codec_doc.mono : ∀ a0 k, LeO (codec_doc.f k a0) (codec_doc.f (k + 1) a0) := by
 intro a0 k
 have ih0 := codec_doc.mono_l k
 unfold codec_doc.f
 repeat' first
  | (with_reducible exact ih0 _ _ _)
  | (with_reducible exact LeO.refl _)
  | (with_reducible exact LeO.none _)
  | (with_reducible refine LeO.ite ?_ ?_)
  | (with_reducible refine LeO.bind ?_ (fun _ => ?_))
  | exact ih0 _ _ _
  | exact LeO.none _
  | refine LeO.ite ?_ ?_
  | refine LeO.bind ?_ (fun _ => ?_)
def emenderref04_Point.f (a0 : Int) : Option (Bool) := if a0 ≥ 0 then (if a0 ≤ 1114111 then (if a0 < 55296 then (some true) else (some (decide (a0 > 57343)))) else (some false)) else (some false)
def emenderref03_Right.f (a0 : Int) : Option (Bool) := if a0 ≥ 0 then (some (decide (a0 ≤ 4))) else (some false)
def emenderref04_Right.j0 : Nat → Int → Bool → Int → Int → Int → Int → Option (Bool)
 | 0, _, _, _, _, _, _ => none
 | k + 1, x4, x20, x127000, x127001, x127002, x127003 => if x20 = true then (if x127001 ≥ 1 then (if x127001 < 16 then (if x127002 ≥ 0 then (if x127002 ≤ 15 then (some (x127003 == 0)) else (some false)) else (some false)) else (some false)) else (some false)) else (if x4 = 2 then (if x127001 = 0 then (if x127002 = 0 then (some (x127003 == 0)) else (some false)) else (some false)) else (some false))
def emenderref04_Right.f (k : Nat) (a0_0 : Int) (a0_1 : Int) (a0_2 : Int) (a0_3 : Int) : Option (Bool) := if a0_0 = 0 then (if a0_1 = 0 then ((emenderref04_Point.f a0_2).bind fun t127 => (if t127 = true then ((emenderref03_Right.f a0_3).bind fun t128 => (some t128)) else (some false))) else (some false)) else (if a0_0 = 1 then (emenderref04_Right.j0 k a0_0 (a0_0 == 1) a0_0 a0_1 a0_2 a0_3) else (emenderref04_Right.j0 k a0_0 (a0_0 == 3) a0_0 a0_1 a0_2 a0_3))
theorem emenderref04_Right.mono_l : ∀ k, (∀ y0 y1 y2 y3 y4 y5, LeO (emenderref04_Right.j0 k y0 y1 y2 y3 y4 y5) (emenderref04_Right.j0 (k + 1) y0 y1 y2 y3 y4 y5))
 | 0 => fun _ _ _ _ _ _ r h => by simp [emenderref04_Right.j0] at h
 | k + 1 => by
  have ih0 := emenderref04_Right.mono_l k
  · intro y0 y1 y2 y3 y4 y5
    unfold emenderref04_Right.j0
    repeat' first
    | (with_reducible exact ih0 _ _ _ _ _ _)
    | (with_reducible exact LeO.refl _)
    | (with_reducible exact LeO.none _)
    | (with_reducible refine LeO.ite ?_ ?_)
    | (with_reducible refine LeO.bind ?_ (fun _ => ?_))
    | exact ih0 _ _ _ _ _ _
    | exact LeO.none _
    | refine LeO.ite ?_ ?_
    | refine LeO.bind ?_ (fun _ => ?_)
theorem emenderref04_Right.mono : ∀ a0 a1 a2 a3 k, LeO (emenderref04_Right.f k a0 a1 a2 a3) (emenderref04_Right.f (k + 1) a0 a1 a2 a3) := by
 intro a0 a1 a2 a3 k
 have ih0 := emenderref04_Right.mono_l k
 unfold emenderref04_Right.f
 repeat' first
  | (with_reducible exact ih0 _ _ _ _ _ _)
  | (with_reducible exact LeO.refl _)
  | (with_reducible exact LeO.none _)
  | (with_reducible refine LeO.ite ?_ ?_)
  | (with_reducible refine LeO.bind ?_ (fun _ => ?_))
  | exact ih0 _ _ _ _ _ _
  | exact LeO.none _
  | refine LeO.ite ?_ ?_
  | refine LeO.bind ?_ (fun _ => ?_)
end Go.Proofs.Ytmbnjgnmblgjoaa.K
end
section
namespace Go.Proofs.Ytmbnjgnmblgjoaa.Man
open Go.RowKit Go.Proofs.YtmbnjgnmblgjoaaW.PrintWords Go.Proofs.YtmbnjgnmblgjoaaW.PrintLast Go.Proofs.YtmbnjgnmblgjoaaW.PrintMore
set_option linter.unusedVariables false
set_option linter.unusedSimpArgs false
def rightB (x : K.S111) : Bool := decide ((x.f0 = 0 ∧ x.f1 = 0 ∧ 0 ≤ x.f2 ∧ x.f2 ≤ 1114111 ∧ x.f2 / 2048 ≠ 27 ∧ 0 ≤ x.f3 ∧ x.f3 ≤ 4) ∨ (x.f0 = 2 ∧ x.f1 = 0 ∧ x.f2 = 0 ∧ x.f3 = 0) ∨ ((x.f0 = 1 ∨ x.f0 = 3) ∧ 0 < x.f1 ∧ x.f1 < 16 ∧ 0 ≤ x.f2 ∧ x.f2 < 16 ∧ x.f3 = 0))
theorem wrap_succ (j : Nat) (h : j < 9223372036854775807) : wrap64 ((j : Int) + 1) = ((j + 1 : Nat) : Int) := by unfold wrap64; omega
def docE (l : List K.S111) : Int := if 2048 < l.length then 2 else if l.all rightB then 0 else 1
def oneMark (m : Int) : Bool := m == 1 || (m == 2 || m == 4)
def gaps0 (x : K.S24) : Bool := x.f3 == 0 && (x.f4 == 0 && x.f5 == 0)
def kindOk (x : K.S24) : Bool :=
 if x.f0 = 1 then decide (x.f1 ≤ x.f3 ∧ x.f3 < x.f4 ∧ x.f4 ≤ x.f2 ∧ 0 ≤ x.f5 ∧ x.f5 ≤ (x.f6.length : Int) ∧ x.f7 = 0)
 else if x.f0 = 0 then x.f7 == 0 && gaps0 x
 else if x.f0 = 2 ∨ x.f0 = 3 then decide (x.f1 < x.f2) && (oneMark x.f7 && ((x.f6.length : Int) == 0 && gaps0 x)) else false
def stepOk (x : K.S24) : Bool := decide (0 ≤ x.f1 ∧ x.f1 ≤ x.f2 ∧ x.f2 ≤ 2048) && (kindOk x && x.f6.all rightB)
def stepE (x : K.S24) : Int := if 2048 < x.f6.length then 2 else if stepOk x then 0 else 1
def entryE (x : K.S26) : Int := if x.f0 < 0 ∨ x.f1 < 0 ∨ 4 ≤ x.f0 ∨ 2147483647 < x.f1 then 1 else stepE x.f2
end Go.Proofs.Ytmbnjgnmblgjoaa.Man
end
section
namespace Go.Proofs.Ytmbnjgnmblgjoaa.Man
open Go.RowKit Go.Proofs.YtmbnjgnmblgjoaaW.PrintWords Go.Proofs.YtmbnjgnmblgjoaaW.PrintLast Go.Proofs.YtmbnjgnmblgjoaaW.PrintMore
set_option linter.unusedVariables false
set_option linter.unusedSimpArgs false
set_option maxRecDepth 100000
abbrev entV (x : K.S26) (A : Option Addr) (c : Nat) : Value := .agg #[.int .i64 x.f0, .int .i64 x.f1, .int .i64 x.f2.f0, .int .i64 x.f2.f1, .int .i64 x.f2.f2, .int .i64 x.f2.f3, .int .i64 x.f2.f4, .int .i64 x.f2.f5, .slice A x.f2.f6.length c, .int .i64 x.f2.f7]
def putDocF (l : List K.S111) : List Int × Int := (if docE l = 0 then docB l else [], docE l)
def putEntryF (x : K.S26) : List Int × Int := (if entryE x = 0 then entryB x else [], entryE x)
def EntAt (w : World) (P : Nat) (x : K.S26) (A : Option Addr) (c : Nat) : Prop := w.heap[P]? = some (.cells #[.int .i64 x.f0, .int .i64 x.f1, .int .i64 x.f2.f0, .int .i64 x.f2.f1, .int .i64 x.f2.f2, .int .i64 x.f2.f3, .int .i64 x.f2.f4, .int .i64 x.f2.f5, .slice A x.f2.f6.length c, .int .i64 x.f2.f7] 26 (0, 0))
theorem EntAt.lt {w : World} {P c : Nat} {x : K.S26} {A : Option Addr} (h : EntAt w P x A c) : P < w.heap.size := (Array.getElem?_eq_some_iff.1 h).1
theorem EntAt.c {w : World} {P c : Nat} {x : K.S26} {A : Option Addr} (h : EntAt w P x A c) : w.cell? ⟨P, 0, none⟩ = some (.int .i64 x.f0) ∧ w.cell? ⟨P, 1, none⟩ = some (.int .i64 x.f1) ∧ w.cell? ⟨P, 2, none⟩ = some (.int .i64 x.f2.f0) ∧ w.cell? ⟨P, 3, none⟩ = some (.int .i64 x.f2.f1) ∧ w.cell? ⟨P, 4, none⟩ = some (.int .i64 x.f2.f2) ∧
 w.cell? ⟨P, 5, none⟩ = some (.int .i64 x.f2.f3) ∧ w.cell? ⟨P, 6, none⟩ = some (.int .i64 x.f2.f4) ∧ w.cell? ⟨P, 7, none⟩ = some (.int .i64 x.f2.f5) ∧ w.cell? ⟨P, 8, none⟩ = some (.slice A x.f2.f6.length c) ∧ w.cell? ⟨P, 9, none⟩ = some (.int .i64 x.f2.f7) := by
 simp [World.cell?, show w.heap[P]? = _ from h]
end Go.Proofs.Ytmbnjgnmblgjoaa.Man
end
section
namespace Go.Proofs.Ytmbnjgnmblgjoaa.Man
open Go.RowKit Go.Proofs.YtmbnjgnmblgjoaaW.PrintWords Go.Proofs.YtmbnjgnmblgjoaaW.PrintLast Go.Proofs.YtmbnjgnmblgjoaaW.PrintMore
set_option linter.unusedVariables false
set_option linter.unusedSimpArgs false
set_option maxRecDepth 100000
attribute [local go_sem] max2_int min2_int max_two min_two max_three min_three
structure MsgL where
 k : Int
 who : Int
 ver : Int
 l : List K.S26
def firstBad : List K.S26 → Int
 | [] => 0
 | x :: l => if entryE x = 0 then firstBad l else entryE x
def msgBad (m : MsgL) : Prop := m.k < 0 ∨ m.who < 0 ∨ m.ver < 0 ∨ 2 < m.k ∨ 4 ≤ m.who ∨ 1024 < m.ver
instance (m : MsgL) : Decidable (msgBad m) := by unfold msgBad; infer_instance
def msgE (m : MsgL) : Int := if msgBad m then 1 else if 1024 < m.l.length then 2 else firstBad m.l
abbrev msgV (m : MsgL) (A : Option Addr) (c : Nat) : Value := .agg #[.int .i64 m.k, .int .i64 m.who, .int .i64 m.ver, .slice A m.l.length c]
abbrev msgO (m : MsgL) (A : Option Addr) (c : Nat) : Obj := .cells #[.int .i64 m.k, .int .i64 m.who, .int .i64 m.ver, .slice A m.l.length c] 71
abbrev entO (x : K.S26) (A : Option Addr) (c : Nat) : Obj := .cells #[.int .i64 x.f0, .int .i64 x.f1, .int .i64 x.f2.f0, .int .i64 x.f2.f1, .int .i64 x.f2.f2, .int .i64 x.f2.f3, .int .i64 x.f2.f4, .int .i64 x.f2.f5, .slice A x.f2.f6.length c, .int .i64 x.f2.f7] 26
def msgB (m : MsgL) : List Int := vbs [m.k, m.who, m.ver, (m.l.length : Int)] ++ m.l.flatMap entryB
def putMsgF (m : MsgL) : List Int × Int := (if msgE m = 0 then msgB m else [], msgE m)
def MsgAt (w : World) (P : Nat) (k who ver : Int) (A : Option Addr) (n c : Nat) : Prop := w.heap[P]? = some (.cells #[.int .i64 k, .int .i64 who, .int .i64 ver, .slice A n c] 71 (0, 0))
theorem MsgAt.lt {w : World} {P n c : Nat} {k who ver : Int} {A : Option Addr} (h : MsgAt w P k who ver A n c) : P < w.heap.size := (Array.getElem?_eq_some_iff.1 h).1
theorem MsgAt.c {w : World} {P n c : Nat} {k who ver : Int} {A : Option Addr} (h : MsgAt w P k who ver A n c) : w.cell? ⟨P, 0, none⟩ = some (.int .i64 k) ∧ w.cell? ⟨P, 1, none⟩ = some (.int .i64 who) ∧ w.cell? ⟨P, 2, none⟩ = some (.int .i64 ver) ∧ w.cell? ⟨P, 3, none⟩ = some (.slice A n c) := by
 simp [World.cell?, show w.heap[P]? = _ from h]
end Go.Proofs.Ytmbnjgnmblgjoaa.Man
end
section
namespace Go.Proofs.Ytmbnjgnmblgjoaa.Man
open Go.RowKit Go.Proofs.YtmbnjgnmblgjoaaW.PrintWords Go.Proofs.YtmbnjgnmblgjoaaW.PrintLast Go.Proofs.YtmbnjgnmblgjoaaW.PrintMore
set_option linter.unusedVariables false
set_option linter.unusedSimpArgs false
set_option maxRecDepth 100000
def BC (w : World) (v : Value) (xs : List Int) : Prop := ∃ A c, v = .slice A xs.length c ∧ Kd.C (Kd.int .u8) w A xs.length xs
theorem BC.of {w : World} {base : Nat} {v : Value} {xs : List Int} (h : BR w base v xs) : BC w v xs := by
 obtain ⟨A, c, rfl, _, hC⟩ := BR.len h
 exact ⟨A, c, rfl, hC⟩
theorem BC.below {w w1 : World} {v : Value} {xs : List Int} (h : BC w v xs) (hb : Below w.heap.size w w1) : BC w1 v xs := by
 obtain ⟨A, c, rfl, hC⟩ := h
 exact ⟨A, c, rfl, Kd.C_below hC hb⟩
theorem BC.nil (w : World) : BC w (.slice none 0 0) [] := ⟨none, 0, rfl, C_nil w .u8⟩
def NumsOk (l : List Int) : Prop := ∀ i, i < l.length → 0 ≤ l.getD i 0 ∧ l.getD i 0 < 9223372036854775808
end Go.Proofs.Ytmbnjgnmblgjoaa.Man
end
section
namespace Go.Proofs.Ytmbnjgnmblgjoaa.Man
open Go.RowKit Go.Proofs.YtmbnjgnmblgjoaaW.PrintWords Go.Proofs.YtmbnjgnmblgjoaaW.PrintLast Go.Proofs.YtmbnjgnmblgjoaaW.PrintMore
set_option linter.unusedVariables false
set_option linter.unusedSimpArgs false
abbrev Rd (α : Type) := Except Int (α × List Int)
def bnd {α β : Type} (r : Rd α) (f : α → List Int → Rd β) : Rd β := match r with | .error e => .error e | .ok (a, l) => f a l
def most : Int := 2147483647
def rnum (top : Int) (l : List Int) : Rd Int :=
 if (getL l 0 0).2.2 ≠ 0 then .error (getL l 0 0).2.2 else if top < ((getL l 0 0).1 : Int) then .error 4 else .ok (((getL l 0 0).1 : Int), l.drop (getL l 0 0).2.1)
def rtok (l : List Int) : Rd K.S111 :=
 bnd (rnum most l) fun k l => if k % 4 = 0 then bnd (rnum most l) fun m l => .ok (⟨0, 0, k / 4, m⟩, l)
  else if k % 4 = 1 ∨ k % 4 = 3 then bnd (rnum most l) fun t l => .ok (⟨k % 4, t, k / 4, 0⟩, l) else .ok (⟨2, 0, k / 4, 0⟩, l)
def rtoks : Nat → List Int → Rd (List K.S111)
 | 0, l => .ok ([], l)
 | n + 1, l => bnd (rtok l) fun x l => bnd (rtoks n l) fun xs l => .ok (x :: xs, l)
def rdoc (l : List Int) : Rd (List K.S111) := bnd (rnum 2048 l) fun n l => rtoks n.toNat l
def rent (l : List Int) : Rd K.S26 :=
 bnd (rnum most l) fun who l => bnd (rnum most l) fun seq l => bnd (rnum 3 l) fun k l => bnd (rnum most l) fun f l => bnd (rnum most l) fun t l =>
  if k = 2 ∨ k = 3 then bnd (rnum most l) fun m l => .ok (⟨who, seq, ⟨k, f, t, 0, 0, 0, [], m⟩⟩, l)
  else if k = 1 then bnd (rnum most l) fun gf l => bnd (rnum most l) fun gt l => bnd (rnum most l) fun ins l => bnd (rdoc l) fun s l => .ok (⟨who, seq, ⟨k, f, t, gf, gt, ins, s, 0⟩⟩, l)
  else bnd (rdoc l) fun s l => .ok (⟨who, seq, ⟨k, f, t, 0, 0, 0, s, 0⟩⟩, l)
def rents : Nat → List Int → Rd (List K.S26)
 | 0, l => .ok ([], l)
 | n + 1, l => bnd (rent l) fun x l => bnd (rents n l) fun xs l => .ok (x :: xs, l)
def rmsg (l : List Int) : Rd MsgL :=
 bnd (rnum most l) fun k l => bnd (rnum most l) fun who l => bnd (rnum most l) fun ver l => bnd (rnum 1024 l) fun n l => bnd (rents n.toNat l) fun xs l => .ok (⟨k, who, ver, xs⟩, l)
def allF {α : Type} (z : α) (ok : α → Int) (r : Rd α) : α × Int := match r with | .error e => (z, e) | .ok (x, r) => if 0 < r.length ∨ ok x ≠ 0 then (z, 4) else (x, 0)
def getDocF (b : List Int) : List K.S111 × Int := allF [] docE (rdoc b)
def getEntryF (b : List Int) : K.S26 × Int := allF K.z26 entryE (rent b)
def zMsg : MsgL := ⟨0, 0, 0, []⟩
def getMsgF (b : List Int) : MsgL × Int := allF zMsg msgE (rmsg b)
theorem rnum_err {top : Int} {l : List Int} {e : Int} (h : rnum top l = .error e) : e ≠ 0 := by
 unfold rnum at h
 split at h
 · rename_i q
   simp only [Except.error.injEq] at h
   omega
 · split at h
   · simp only [Except.error.injEq] at h; omega
   · cases h
def ErrNz {α : Type} (r : Rd α) : Prop := ∀ e, r = .error e → e ≠ 0
theorem ErrNz.bnd {α β : Type} {r : Rd α} {f : α → List Int → Rd β} (h : ErrNz r) (hf : ∀ a l, ErrNz (f a l)) : ErrNz (bnd r f) := by
 match r, h with
 | .error e, h => intro e' he; exact h e' (by have := Except.error.inj he; rw [this])
 | .ok (a, l), _ => exact hf a l
theorem ErrNz.ok {α : Type} (x : α × List Int) : ErrNz (.ok x : Rd α) := fun e h => by cases h
theorem ErrNz.num (top : Int) (l : List Int) : ErrNz (rnum top l) := fun e h => rnum_err h
theorem ErrNz.tok (l : List Int) : ErrNz (rtok l) := by
 unfold rtok
 refine (ErrNz.num _ _).bnd fun k l => ?_
 split
 · exact (ErrNz.num _ _).bnd fun _ _ => .ok _
 · split
   · exact (ErrNz.num _ _).bnd fun _ _ => .ok _
   · exact .ok _
theorem ErrNz.toks : ∀ (n : Nat) (l : List Int), ErrNz (rtoks n l)
 | 0, l => .ok _
 | n + 1, l => (ErrNz.tok l).bnd fun _ l => (ErrNz.toks n l).bnd fun _ _ => .ok _
theorem ErrNz.doc (l : List Int) : ErrNz (rdoc l) := (ErrNz.num _ _).bnd fun n l => ErrNz.toks _ l
theorem ErrNz.ent (l : List Int) : ErrNz (rent l) := by
 unfold rent
 refine (ErrNz.num _ _).bnd fun _ _ => (ErrNz.num _ _).bnd fun _ _ => (ErrNz.num _ _).bnd fun _ _ => (ErrNz.num _ _).bnd fun _ _ => (ErrNz.num _ _).bnd fun _ _ => ?_
 split
 · exact (ErrNz.num _ _).bnd fun _ _ => .ok _
 · split
   · exact (ErrNz.num _ _).bnd fun _ _ => (ErrNz.num _ _).bnd fun _ _ => (ErrNz.num _ _).bnd fun _ _ => (ErrNz.doc _).bnd fun _ _ => .ok _
   · exact (ErrNz.doc _).bnd fun _ _ => .ok _
theorem ErrNz.ents : ∀ (n : Nat) (l : List Int), ErrNz (rents n l)
 | 0, l => .ok _
 | n + 1, l => (ErrNz.ent l).bnd fun _ l => (ErrNz.ents n l).bnd fun _ _ => .ok _
theorem ErrNz.msg (l : List Int) : ErrNz (rmsg l) :=
 (ErrNz.num _ _).bnd fun _ _ => (ErrNz.num _ _).bnd fun _ _ => (ErrNz.num _ _).bnd fun _ _ => (ErrNz.num _ _).bnd fun _ _ => (ErrNz.ents _ _).bnd fun _ _ => .ok _
end Go.Proofs.Ytmbnjgnmblgjoaa.Man
end
section
namespace Go.Proofs.Ytmbnjgnmblgjoaa.Man
open Go.RowKit Go.Proofs.YtmbnjgnmblgjoaaW.PrintWords Go.Proofs.YtmbnjgnmblgjoaaW.PrintLast Go.Proofs.YtmbnjgnmblgjoaaW.PrintMore
set_option linter.unusedVariables false
set_option linter.unusedSimpArgs false
set_option maxRecDepth 100000
abbrev errCh (f : Int) : List PanicEntry := [{ v := .iface 28 (.int .i64 f), recovered := false }]
def SpotAt (w : World) (P : Nat) (A : Option Addr) (c n p : Nat) : Prop := w.heap[P]? = some (.cells #[.slice A n c, .int .i64 (p : Int)] 194 (0, 0))
theorem SpotAt.c0 {w : World} {P c n p : Nat} {A : Option Addr} (k : SpotAt w P A c n p) : w.cell? ⟨P, 0, none⟩ = some (.slice A n c) := by simp [World.cell?, show w.heap[P]? = _ from k]
theorem SpotAt.c1 {w : World} {P c n p : Nat} {A : Option Addr} (k : SpotAt w P A c n p) : w.cell? ⟨P, 1, none⟩ = some (.int .i64 (p : Int)) := by simp [World.cell?, show w.heap[P]? = _ from k]
theorem SpotAt.f {w : World} {P c n p : Nat} {A : Option Addr} (k : SpotAt w P A c n p) (i : Nat) : w.frozen? ⟨P, i, none⟩ = false := by simp [World.frozen?, show w.heap[P]? = _ from k]
theorem SpotAt.lt {w : World} {P c n p : Nat} {A : Option Addr} (k : SpotAt w P A c n p) : P < w.heap.size := (Array.getElem?_eq_some_iff.1 k).1
theorem SpotAt.put {w : World} {P c n p : Nat} {A : Option Addr} (k : SpotAt w P A c n p) (q : Nat) : SpotAt (w.setCell ⟨P, 1, none⟩ (.int .i64 (q : Int))) P A c n q := by
 unfold SpotAt World.setCell
 simp [Array.getElem?_modify, show w.heap[P]? = _ from k]
theorem SpotAt.below {w w1 : World} {P c n p m : Nat} {A : Option Addr} (k : SpotAt w P A c n p) (h : Below m w w1) (hm : P < m) : SpotAt w1 P A c n p := (h.block P hm).trans k
theorem SpotAt.drewN {w : World} {P c n p m : Nat} {A : Option Addr} (k : SpotAt w P A c n p) : SpotAt (w.drewN m) P A c n p := (congrArg (fun h => h[P]?) (by simp [World.drewN] : (w.drewN m).heap = w.heap)).trans k
end Go.Proofs.Ytmbnjgnmblgjoaa.Man
end
section
namespace Go.Proofs.Ytmbnjgnmblgjoaa.Man
open Go.RowKit Go.Proofs.YtmbnjgnmblgjoaaW.PrintWords Go.Proofs.YtmbnjgnmblgjoaaW.PrintLast Go.Proofs.YtmbnjgnmblgjoaaW.PrintMore
set_option linter.unusedVariables false
set_option linter.unusedSimpArgs false
set_option maxRecDepth 100000
def RdP {α : Type} (w : World) (P : Nat) (A : Option Addr) (c : Nat) (b : List Int) (ret : α → Value → World → Prop) (res : Rd α) (e : Ending) (w' : World) : Prop :=
 w.grownBy w' (some P) ∧ match res with
 | .error f => e = .panicked (errCh f)
 | .ok (x, r) => ∃ v, e = .returned v ∧ ret x v w' ∧ SpotAt w' P A c b.length (b.length - r.length)
theorem RdP.ok {α : Type} {w : World} {P : Nat} {A : Option Addr} {c : Nat} {b : List Int} {ret : α → Value → World → Prop} {res : Rd α} {x : α} {r : List Int} {v : Value} {w' : World} {q : Nat} (hr : res = .ok (x, r)) (hg : w.grownBy w' (some P)) (hv : ret x v w')
 (hs : SpotAt w' P A c b.length q) (hq : b.length - r.length = q) : RdP w P A c b ret res (.returned v) w' := by
 subst hr
 subst hq
 exact ⟨hg, v, rfl, hv, hs⟩
abbrev TR (w : World) (base : Nat) (v : Value) (xs : List K.S111) : Prop := Kd.R K.k111 111 w base (fun _ => True) v xs
theorem TR.grown {w w1 : World} {base P : Nat} {v : Value} {xs : List K.S111} (h : TR w base v xs) (hg : w.grownBy w1 (some P)) (hP : P < base) : TR w1 base v xs :=
 Kd.R_mono (Kd.R_grown (Kd.R_bound h) hg (fun j hj e => by have h1 := hj.2.1; have h2 := Option.some.inj e; omega)) (fun _ _ => trivial)
theorem grown_setT {w w1 : World} {r : Option Nat} (hg : w.grownBy w1 r) (T k : Nat) (u : Value) (hT : w.heap.size ≤ T) : w.grownBy (w1.setCell ⟨T, k, none⟩ u) r :=
 ⟨hg.os, hg.tape, hg.output, by simpa [World.setCell] using hg.size, fun j hj hr => (Below.heap_setCell w1 ⟨T, k, none⟩ u j (by show j ≠ T; omega)).trans (hg.block j hj hr)⟩
def PtrAt (w : World) (R P : Nat) : Prop := w.heap[R]? = some (.cells #[.pointer (some ⟨P, 0, none⟩)] 140 (0, 0))
theorem PtrAt.c0 {w : World} {R P : Nat} (k : PtrAt w R P) : w.cell? ⟨R, 0, none⟩ = some (.pointer (some ⟨P, 0, none⟩)) := by simp [World.cell?, show w.heap[R]? = _ from k]
theorem PtrAt.lt {w : World} {R P : Nat} (k : PtrAt w R P) : R < w.heap.size := (Array.getElem?_eq_some_iff.1 k).1
theorem PtrAt.grown {w w1 : World} {R P : Nat} (k : PtrAt w R P) (hg : w.grownBy w1 (some P)) (hP : P < R) : PtrAt w1 R P := (hg.block _ k.lt (by intro e; have := Option.some.inj e; omega)).trans k
theorem TokAt.f {w : World} {P : Nat} {x : K.S111} (k : TokAt w P x) (i : Nat) : w.frozen? ⟨P, i, none⟩ = false := by simp [World.frozen?, show w.heap[P]? = _ from k]
end Go.Proofs.Ytmbnjgnmblgjoaa.Man
end
section
namespace Go.Proofs.Ytmbnjgnmblgjoaa.Man
open Go.RowKit Go.Proofs.YtmbnjgnmblgjoaaW.PrintWords Go.Proofs.YtmbnjgnmblgjoaaW.PrintLast Go.Proofs.YtmbnjgnmblgjoaaW.PrintMore
set_option linter.unusedVariables false
set_option linter.unusedSimpArgs false
set_option maxRecDepth 100000
def EntC (w : World) (E : Nat) (a0 a1 a2 a3 a4 a5 a6 a7 : Int) (v : Value) (a9 : Int) : Prop := w.heap[E]? = some (.cells #[.int .i64 a0, .int .i64 a1, .int .i64 a2, .int .i64 a3, .int .i64 a4, .int .i64 a5, .int .i64 a6, .int .i64 a7, v, .int .i64 a9] 26 (0, 0))
structure EnS (w W : World) (P : Nat) (A : Option Addr) (c n q : Nat) (a0 a1 a2 a3 a4 a5 a6 a7 : Int) (v : Value) (a9 : Int) : Prop where
 spot : SpotAt W P A c n q
 ptr : PtrAt W w.heap.size P
 ent : EntC W (w.heap.size + 1) a0 a1 a2 a3 a4 a5 a6 a7 v a9
 grown : w.grownBy W (some P)
section
variable {w W W' : World} {P c n q q' : Nat} {A : Option Addr} {a0 a1 a2 a3 a4 a5 a6 a7 a9 : Int} {v : Value}
theorem EnS.size (h : EnS w W P A c n q a0 a1 a2 a3 a4 a5 a6 a7 v a9) : w.heap.size + 2 ≤ W.heap.size := (Array.getElem?_eq_some_iff.1 h.ent).1
theorem EnS.num (h : EnS w W P A c n q a0 a1 a2 a3 a4 a5 a6 a7 v a9) (hP : P < w.heap.size) (hk : SpotAt W' P A c n q') (hg : W.grownBy W' (some P)) : EnS w W' P A c n q' a0 a1 a2 a3 a4 a5 a6 a7 v a9 :=
 ⟨hk, h.ptr.grown hg hP, (hg.block _ (Array.getElem?_eq_some_iff.1 h.ent).1 (by intro e; have e2 := Option.some.inj e; omega)).trans h.ent, h.grown.trans hg⟩
theorem EnS.below (h : EnS w W P A c n q a0 a1 a2 a3 a4 a5 a6 a7 v a9) (hP : P < w.heap.size) (hb : Below W.heap.size W W') : EnS w W' P A c n q a0 a1 a2 a3 a4 a5 a6 a7 v a9 :=
 h.num hP (h.spot.below hb h.spot.lt) (grown_of_below hb _)
theorem EnS.drew (h : EnS w W P A c n q a0 a1 a2 a3 a4 a5 a6 a7 v a9) (hP : P < w.heap.size) : EnS w W.drew P A c n q a0 a1 a2 a3 a4 a5 a6 a7 v a9 := h.below hP (below_drew1 (Below.refl _ _))
theorem EnS.f (h : EnS w W P A c n q a0 a1 a2 a3 a4 a5 a6 a7 v a9) (i : Nat) : W.frozen? ⟨w.heap.size + 1, i, none⟩ = false := by simp [World.frozen?, show W.heap[w.heap.size + 1]? = _ from h.ent]
theorem EnS.put (h : EnS w W P A c n q a0 a1 a2 a3 a4 a5 a6 a7 v a9) (hP : P < w.heap.size) (i : Nat) (u : Value) {b0 b1 b2 b3 b4 b5 b6 b7 b9 : Int} {v' : Value}
 (he : (#[.int .i64 a0, .int .i64 a1, .int .i64 a2, .int .i64 a3, .int .i64 a4, .int .i64 a5, .int .i64 a6, .int .i64 a7, v, .int .i64 a9] : Array Value).setIfInBounds i u = #[.int .i64 b0, .int .i64 b1, .int .i64 b2, .int .i64 b3, .int .i64 b4, .int .i64 b5, .int .i64 b6, .int .i64 b7, v', .int .i64 b9]) :
 EnS w (W.setCell ⟨w.heap.size + 1, i, none⟩ u) P A c n q b0 b1 b2 b3 b4 b5 b6 b7 v' b9 := by
 refine ⟨(Below.heap_setCell W _ _ _ (by show P ≠ w.heap.size + 1; omega)).trans h.spot, (Below.heap_setCell W _ _ _ (by show w.heap.size ≠ w.heap.size + 1; omega)).trans h.ptr, ?_, grown_setT h.grown _ _ _ (Nat.le_succ _)⟩
 unfold EntC World.setCell
 have h1 := h.ent
 unfold EntC at h1
 have he2 := congrArg Array.toList he
 simp [Array.getElem?_modify, h1]
 simpa using he2
theorem EnS.c0 (h : EnS w W P A c n q a0 a1 a2 a3 a4 a5 a6 a7 v a9) : W.cell? ⟨w.heap.size + 1, 0, none⟩ = some (.int .i64 a0) := by simp [World.cell?, show W.heap[w.heap.size + 1]? = _ from h.ent]
theorem EnS.c1 (h : EnS w W P A c n q a0 a1 a2 a3 a4 a5 a6 a7 v a9) : W.cell? ⟨w.heap.size + 1, 1, none⟩ = some (.int .i64 a1) := by simp [World.cell?, show W.heap[w.heap.size + 1]? = _ from h.ent]
theorem EnS.c2 (h : EnS w W P A c n q a0 a1 a2 a3 a4 a5 a6 a7 v a9) : W.cell? ⟨w.heap.size + 1, 2, none⟩ = some (.int .i64 a2) := by simp [World.cell?, show W.heap[w.heap.size + 1]? = _ from h.ent]
theorem EnS.c4 (h : EnS w W P A c n q a0 a1 a2 a3 a4 a5 a6 a7 v a9) : W.cell? ⟨w.heap.size + 1, 4, none⟩ = some (.int .i64 a4) := by simp [World.cell?, show W.heap[w.heap.size + 1]? = _ from h.ent]
theorem EnS.c5 (h : EnS w W P A c n q a0 a1 a2 a3 a4 a5 a6 a7 v a9) : W.cell? ⟨w.heap.size + 1, 5, none⟩ = some (.int .i64 a5) := by simp [World.cell?, show W.heap[w.heap.size + 1]? = _ from h.ent]
theorem EnS.c6 (h : EnS w W P A c n q a0 a1 a2 a3 a4 a5 a6 a7 v a9) : W.cell? ⟨w.heap.size + 1, 6, none⟩ = some (.int .i64 a6) := by simp [World.cell?, show W.heap[w.heap.size + 1]? = _ from h.ent]
theorem EnS.c7 (h : EnS w W P A c n q a0 a1 a2 a3 a4 a5 a6 a7 v a9) : W.cell? ⟨w.heap.size + 1, 7, none⟩ = some (.int .i64 a7) := by simp [World.cell?, show W.heap[w.heap.size + 1]? = _ from h.ent]
theorem EnS.c8 (h : EnS w W P A c n q a0 a1 a2 a3 a4 a5 a6 a7 v a9) : W.cell? ⟨w.heap.size + 1, 8, none⟩ = some (v) := by simp [World.cell?, show W.heap[w.heap.size + 1]? = _ from h.ent]
theorem EnS.c9 (h : EnS w W P A c n q a0 a1 a2 a3 a4 a5 a6 a7 v a9) : W.cell? ⟨w.heap.size + 1, 9, none⟩ = some (.int .i64 a9) := by simp [World.cell?, show W.heap[w.heap.size + 1]? = _ from h.ent]
end
theorem TR.set {w : World} {base E : Nat} {v : Value} {xs : List K.S111} (h : TR w base v xs) (hE : E < base) (k : Nat) (u : Value) : TR (w.setCell ⟨E, k, none⟩ u) base v xs := h.grown (grownBy_set w E k u (World.grownBy.refl w _)) hE
def EntR (base : Nat) (x : K.S26) (r : Value) (w' : World) : Prop := ∃ u, r = .agg #[.int .i64 x.f0, .int .i64 x.f1, .int .i64 x.f2.f0, .int .i64 x.f2.f1, .int .i64 x.f2.f2, .int .i64 x.f2.f3, .int .i64 x.f2.f4, .int .i64 x.f2.f5, u, .int .i64 x.f2.f7] ∧ TR w' base u x.f2.f6
def entR1.T : Bool × List (List Nat × List Nat) := (true, [([], []), ([0], [0]), ([1], [1]), ([], []), ([3], [3]), ([4, 2], [4]), ([0, 1, 2, 5], []), ([6, 2, 5, 0, 1, 2, 5], [2, 6]), ([0, 1, 2, 3, 4, 5, 6, 7], []), ([8, 5, 7, 0, 1, 2, 3, 4, 5, 6, 7], [5, 8])])
def entR1.B : List Nat := [0, 1, 3, 0, 8, 31, 63, 127, 255, 511]
def entR3.T : Bool × List (List Nat × List Nat) := (true, [([], []), ([], []), ([], []), ([], []), ([3], [3]), ([4], [4]), ([], []), ([6], [6]), ([7, 5], [7]), ([], []), ([9], [9]), ([10, 8], [10]), ([0, 0, 3, 4, 5, 8, 11], [0]), ([12, 0, 3, 4, 5, 8, 11], [12]), ([13, 5, 11, 0, 3, 4, 5, 8, 11], [5, 13]), ([1, 0, 1, 3, 4, 5, 6, 7, 8, 11, 12, 13, 14], [1]), ([15, 0, 1, 3, 4, 5, 6, 7, 8, 11, 12, 13, 14], [15]), ([16, 8, 14, 0, 1, 3, 4, 5, 6, 7, 8, 11, 12, 13, 14], [8, 16]), ([2, 0, 1, 2, 3, 4, 5, 6, 7, 8, 9, 10, 11, 12, 13, 14, 15, 16, 17], [2]), ([18, 0, 1, 2, 3, 4, 5, 6, 7, 8, 9, 10, 11, 12, 13, 14, 15, 16, 17], [18]), ([19, 11, 17, 0, 1, 2, 3, 4, 5, 6, 7, 8, 9, 10, 11, 12, 13, 14, 15, 16, 17], [11, 19])])
def entR3.B : List Nat := [0, 0, 0, 0, 8, 24, 0, 64, 248, 0, 512, 2040, 4089, 8185, 16377, 32763, 65531, 131067, 262143, 524287, 1048575]
def entR10.T : Bool × List (List Nat × List Nat) := (true, [([], []), ([], []), ([], []), ([], []), ([3], [3]), ([4], [4]), ([], []), ([6], [6]), ([7, 5], [7]), ([], []), ([9], [9]), ([10, 8], [10]), ([0, 0, 3, 4, 5, 8, 11], [0]), ([12, 0, 3, 4, 5, 8, 11], [12]), ([13, 5, 11, 0, 3, 4, 5, 8, 11], [5, 13]), ([1, 0, 1, 3, 4, 5, 6, 7, 8, 11, 12, 13, 14], [1]), ([15, 0, 1, 3, 4, 5, 6, 7, 8, 11, 12, 13, 14], [15]), ([16, 8, 14, 0, 1, 3, 4, 5, 6, 7, 8, 11, 12, 13, 14], [8, 16]), ([2, 0, 1, 2, 3, 4, 5, 6, 7, 8, 9, 10, 11, 12, 13, 14, 15, 16, 17], [2]), ([18, 0, 1, 2, 3, 4, 5, 6, 7, 8, 9, 10, 11, 12, 13, 14, 15, 16, 17], [18]), ([19, 11, 17, 0, 1, 2, 3, 4, 5, 6, 7, 8, 9, 10, 11, 12, 13, 14, 15, 16, 17], [11, 19])])
def entR10.B : List Nat := [0, 0, 0, 0, 8, 24, 0, 64, 248, 0, 512, 2040, 4089, 8185, 16377, 32763, 65531, 131067, 262143, 524287, 1048575]
end Go.Proofs.Ytmbnjgnmblgjoaa.Man
end
section
namespace Go.Proofs.Ytmbnjgnmblgjoaa.Man
open Go.RowKit Go.Proofs.YtmbnjgnmblgjoaaW.PrintWords Go.Proofs.YtmbnjgnmblgjoaaW.PrintLast Go.Proofs.YtmbnjgnmblgjoaaW.PrintMore
set_option linter.unusedVariables false
set_option linter.unusedSimpArgs false
set_option maxRecDepth 100000
def ResAt (w : World) (R : Nat) (f : Int) : Prop := w.heap[R]? = some (.cells #[.int .i64 f] 28 (0, 0))
theorem ResAt.c0 {w : World} {R : Nat} {f : Int} (k : ResAt w R f) : w.cell? ⟨R, 0, none⟩ = some (.int .i64 f) := by simp [World.cell?, show w.heap[R]? = _ from k]
theorem ResAt.f {w : World} {R : Nat} {f : Int} (k : ResAt w R f) : w.frozen? ⟨R, 0, none⟩ = false := by simp [World.frozen?, show w.heap[R]? = _ from k]
theorem ResAt.put {w : World} {R : Nat} {f : Int} (k : ResAt w R f) (g : Int) : ResAt (w.setCell ⟨R, 0, none⟩ (.int .i64 g)) R g := by
 unfold ResAt World.setCell
 simp [Array.getElem?_modify, show w.heap[R]? = _ from k]
theorem ResAt.lt {w : World} {R : Nat} {f : Int} (k : ResAt w R f) : R < w.heap.size := (Array.getElem?_eq_some_iff.1 k).1
abbrev runW (w : World) (A : Option Addr) (n c : Nat) : World := (w.alloc (.cells #[.int .i64 0] 28)).alloc (.cells #[.slice A n c, .int .i64 0] 194)
end Go.Proofs.Ytmbnjgnmblgjoaa.Man
end
section
namespace Go.Proofs.Ytmbnjgnmblgjoaa.Man
open Go.RowKit Go.Proofs.YtmbnjgnmblgjoaaW.PrintWords Go.Proofs.YtmbnjgnmblgjoaaW.PrintLast Go.Proofs.YtmbnjgnmblgjoaaW.PrintMore
set_option linter.unusedVariables false
set_option linter.unusedSimpArgs false
set_option maxRecDepth 100000
def RowAt (w : World) (V : Nat) (v : Value) : Prop := w.heap[V]? = some (.cells #[v] 22 (0, 0))
theorem RowAt.c0 {w : World} {V : Nat} {v : Value} (k : RowAt w V v) : w.cell? ⟨V, 0, none⟩ = some v := by simp [World.cell?, show w.heap[V]? = _ from k]
theorem RowAt.f {w : World} {V : Nat} {v : Value} (k : RowAt w V v) : w.frozen? ⟨V, 0, none⟩ = false := by simp [World.frozen?, show w.heap[V]? = _ from k]
theorem RowAt.lt {w : World} {V : Nat} {v : Value} (k : RowAt w V v) : V < w.heap.size := (Array.getElem?_eq_some_iff.1 k).1
theorem RowAt.put {w : World} {V : Nat} {v : Value} (k : RowAt w V v) (u : Value) : RowAt (w.setCell ⟨V, 0, none⟩ u) V u := by
 unfold RowAt World.setCell
 simp [Array.getElem?_modify, show w.heap[V]? = _ from k]
theorem heap_set_ne (w : World) (B k j : Nat) (u : Value) (h : j ≠ B) : (w.setCell ⟨B, k, none⟩ u).heap[j]? = w.heap[j]? := Below.heap_setCell w ⟨B, k, none⟩ u j h
theorem TR.C {w : World} {base : Nat} {v : Value} {xs : List K.S111} (h : TR w base v xs) : ∃ A c, v = .slice A xs.length c ∧ xs.length ≤ c ∧ Kd.C K.k111 w A xs.length xs := Kd.R_reads h
section
variable {w : World} {E : Nat} {a0 a1 a2 a3 a4 a5 a6 a7 a9 : Int} {v : Value}
theorem EntC.lt (h : EntC w E a0 a1 a2 a3 a4 a5 a6 a7 v a9) : E < w.heap.size := (Array.getElem?_eq_some_iff.1 h).1
theorem EntC.f (h : EntC w E a0 a1 a2 a3 a4 a5 a6 a7 v a9) (i : Nat) : w.frozen? ⟨E, i, none⟩ = false := by simp [World.frozen?, show w.heap[E]? = _ from h]
theorem EntC.put (h : EntC w E a0 a1 a2 a3 a4 a5 a6 a7 v a9) (i : Nat) (u : Value) {b0 b1 b2 b3 b4 b5 b6 b7 b9 : Int} {v' : Value}
 (he : (#[.int .i64 a0, .int .i64 a1, .int .i64 a2, .int .i64 a3, .int .i64 a4, .int .i64 a5, .int .i64 a6, .int .i64 a7, v, .int .i64 a9] : Array Value).setIfInBounds i u = #[.int .i64 b0, .int .i64 b1, .int .i64 b2, .int .i64 b3, .int .i64 b4, .int .i64 b5, .int .i64 b6, .int .i64 b7, v', .int .i64 b9]) :
 EntC (w.setCell ⟨E, i, none⟩ u) E b0 b1 b2 b3 b4 b5 b6 b7 v' b9 := by
 unfold EntC World.setCell
 unfold EntC at h
 have he2 := congrArg Array.toList he
 simp [Array.getElem?_modify, h]
 simpa using he2
theorem EntC.cells (h : EntC w E a0 a1 a2 a3 a4 a5 a6 a7 v a9) : w.cell? ⟨E, 0, none⟩ = some (.int .i64 a0) ∧ w.cell? ⟨E, 1, none⟩ = some (.int .i64 a1) ∧ w.cell? ⟨E, 2, none⟩ = some (.int .i64 a2) ∧ w.cell? ⟨E, 3, none⟩ = some (.int .i64 a3) ∧ w.cell? ⟨E, 4, none⟩ = some (.int .i64 a4) ∧
 w.cell? ⟨E, 5, none⟩ = some (.int .i64 a5) ∧ w.cell? ⟨E, 6, none⟩ = some (.int .i64 a6) ∧ w.cell? ⟨E, 7, none⟩ = some (.int .i64 a7) ∧ w.cell? ⟨E, 8, none⟩ = some v ∧ w.cell? ⟨E, 9, none⟩ = some (.int .i64 a9) := by
 simp [World.cell?, show w.heap[E]? = _ from h]
end
def setEnt (w : World) (E : Nat) (b0 b1 b2 b3 b4 b5 b6 b7 : Int) (u : Value) (b9 : Int) : World :=
 (((((((((w.setCell ⟨E, 0, none⟩ (.int .i64 b0)).setCell ⟨E, 1, none⟩ (.int .i64 b1)).setCell ⟨E, 2, none⟩ (.int .i64 b2)).setCell ⟨E, 3, none⟩ (.int .i64 b3)).setCell ⟨E, 4, none⟩ (.int .i64 b4)).setCell ⟨E, 5, none⟩ (.int .i64 b5)).setCell ⟨E, 6, none⟩ (.int .i64 b6)).setCell ⟨E, 7, none⟩ (.int .i64 b7)).setCell ⟨E, 8, none⟩ u).setCell ⟨E, 9, none⟩ (.int .i64 b9)
theorem EntC.set {w : World} {E : Nat} {a0 a1 a2 a3 a4 a5 a6 a7 a9 : Int} {v : Value} (h : EntC w E a0 a1 a2 a3 a4 a5 a6 a7 v a9) (b0 b1 b2 b3 b4 b5 b6 b7 : Int) (u : Value) (b9 : Int) : EntC (setEnt w E b0 b1 b2 b3 b4 b5 b6 b7 u b9) E b0 b1 b2 b3 b4 b5 b6 b7 u b9 :=
 (((((((((h.put 0 (.int .i64 b0) rfl).put 1 (.int .i64 b1) rfl).put 2 (.int .i64 b2) rfl).put 3 (.int .i64 b3) rfl).put 4 (.int .i64 b4) rfl).put 5 (.int .i64 b5) rfl).put 6 (.int .i64 b6) rfl).put 7 (.int .i64 b7) rfl).put 8 u rfl).put 9 (.int .i64 b9) rfl
theorem TR.setEnt {w : World} {base E : Nat} {v : Value} {xs : List K.S111} (h : TR w base v xs) (hE : E < base) (b0 b1 b2 b3 b4 b5 b6 b7 : Int) (u : Value) (b9 : Int) : TR (setEnt w E b0 b1 b2 b3 b4 b5 b6 b7 u b9) base v xs :=
 (((((((((h.set hE 0 _).set hE 1 _).set hE 2 _).set hE 3 _).set hE 4 _).set hE 5 _).set hE 6 _).set hE 7 _).set hE 8 _).set hE 9 _
end Go.Proofs.Ytmbnjgnmblgjoaa.Man
end
section
namespace Go.Proofs.Ytmbnjgnmblgjoaa.Man
open Go.RowKit Go.Proofs.YtmbnjgnmblgjoaaW.PrintWords Go.Proofs.YtmbnjgnmblgjoaaW.PrintLast Go.Proofs.YtmbnjgnmblgjoaaW.PrintMore
set_option linter.unusedVariables false
set_option linter.unusedSimpArgs false
set_option maxRecDepth 100000
theorem EntC.ne {w w1 : World} {E : Nat} {a0 a1 a2 a3 a4 a5 a6 a7 a9 : Int} {v : Value} (h : EntC w E a0 a1 a2 a3 a4 a5 a6 a7 v a9) (e : w1.heap[E]? = w.heap[E]?) : EntC w1 E a0 a1 a2 a3 a4 a5 a6 a7 v a9 := e.trans h
end Go.Proofs.Ytmbnjgnmblgjoaa.Man
end
section
namespace Go.Proofs.Ytmbnjgnmblgjoaa.Man
open Go.RowKit Go.Proofs.YtmbnjgnmblgjoaaW.PrintWords Go.Proofs.YtmbnjgnmblgjoaaW.PrintLast Go.Proofs.YtmbnjgnmblgjoaaW.PrintMore
set_option linter.unusedVariables false
set_option linter.unusedSimpArgs false
set_option maxRecDepth 100000
abbrev ER (w : World) (base : Nat) (v : Value) (xs : List K.S26) : Prop := Kd.R K.k26 26 w base (fun _ => True) v xs
theorem ER.grown {w w1 : World} {base P : Nat} {v : Value} {xs : List K.S26} (h : ER w base v xs) (hg : w.grownBy w1 (some P)) (hP : P < base) : ER w1 base v xs :=
 Kd.R_mono (Kd.R_grown (Kd.R_bound h) hg (fun j hj e => by have h1 := hj.2.1; have h2 := Option.some.inj e; omega)) (fun _ _ => trivial)
theorem ER.set {w : World} {base E : Nat} {v : Value} {xs : List K.S26} (h : ER w base v xs) (hE : E < base) (k : Nat) (u : Value) : ER (w.setCell ⟨E, k, none⟩ u) base v xs := ER.grown h (grownBy_set w E k u (World.grownBy.refl w _)) hE
theorem ER.C {w : World} {base : Nat} {v : Value} {xs : List K.S26} (h : ER w base v xs) : ∃ A c, v = .slice A xs.length c ∧ xs.length ≤ c ∧ Kd.C K.k26 w A xs.length xs := Kd.R_reads h
theorem ER.lt {w : World} {base j : Nat} {v : Value} {xs : List K.S26} (h : ER w base v xs) (hj : v.ownBlock = some j) : j < w.heap.size := ((Kd.R_bound h).1 j hj).2.2.1
structure Kp2 (w W : World) (P V : Nat) : Prop where
 os : W.os = w.os
 tape : W.tape = w.tape
 output : W.output = w.output
 size : w.heap.size ≤ W.heap.size
 block : ∀ j, j < w.heap.size → j ≠ P → j ≠ V → W.heap[j]? = w.heap[j]?
theorem Kp2.refl (w : World) (P V : Nat) : Kp2 w w P V := ⟨rfl, rfl, rfl, Nat.le_refl _, fun _ _ _ _ => rfl⟩
theorem Kp2.num {w W W' : World} {P V : Nat} (h : Kp2 w W P V) (hg : W.grownBy W' (some P)) : Kp2 w W' P V :=
 ⟨hg.os.trans h.os, hg.tape.trans h.tape, hg.output.trans h.output, Nat.le_trans h.size hg.size, fun j hj h1 h2 => (hg.block j (Nat.lt_of_lt_of_le hj h.size) (fun e => h1 (Option.some.inj e))).trans (h.block j hj h1 h2)⟩
theorem Kp2.below {w W W' : World} {P V m : Nat} (h : Kp2 w W P V) (hb : Below m W W') (hm : w.heap.size ≤ m) : Kp2 w W' P V :=
 ⟨hb.os.trans h.os, hb.tape.trans h.tape, hb.output.trans h.output, Nat.le_trans h.size hb.size, fun j hj h1 h2 => (hb.block j (by omega)).trans (h.block j hj h1 h2)⟩
theorem Kp2.set {w W : World} {P V : Nat} (h : Kp2 w W P V) (k : Nat) (u : Value) : Kp2 w (W.setCell ⟨V, k, none⟩ u) P V :=
 ⟨h.os, h.tape, h.output, by simpa [World.setCell] using h.size, fun j hj h1 h2 => (heap_set_ne W V k j u h2).trans (h.block j hj h1 h2)⟩
theorem Kp2.old {w0 w W : World} {P V : Nat} (h : Kp2 w W P V) (hb : Below w0.heap.size w0 w) (hP : w0.heap.size ≤ P) (hV : w0.heap.size ≤ V) : Below w0.heap.size w0 W :=
 ⟨h.os.trans hb.os, h.tape.trans hb.tape, h.output.trans hb.output, Nat.le_trans hb.size h.size, fun j hj => (h.block j (Nat.lt_of_lt_of_le hj hb.size) (by omega) (by omega)).trans (hb.block j hj)⟩
def MsgC (w : World) (V : Nat) (a0 a1 a2 : Int) (v : Value) : Prop := w.heap[V]? = some (.cells #[.int .i64 a0, .int .i64 a1, .int .i64 a2, v] 71 (0, 0))
theorem MsgC.lt {w : World} {V : Nat} {a0 a1 a2 : Int} {v : Value} (h : MsgC w V a0 a1 a2 v) : V < w.heap.size := (Array.getElem?_eq_some_iff.1 h).1
theorem MsgC.cells {w : World} {V : Nat} {a0 a1 a2 : Int} {v : Value} (h : MsgC w V a0 a1 a2 v) : w.cell? ⟨V, 0, none⟩ = some (.int .i64 a0) ∧ w.cell? ⟨V, 1, none⟩ = some (.int .i64 a1) ∧ w.cell? ⟨V, 2, none⟩ = some (.int .i64 a2) ∧ w.cell? ⟨V, 3, none⟩ = some v := by simp [World.cell?, show w.heap[V]? = _ from h]
theorem MsgC.f {w : World} {V : Nat} {a0 a1 a2 : Int} {v : Value} (h : MsgC w V a0 a1 a2 v) (i : Nat) : w.frozen? ⟨V, i, none⟩ = false := by simp [World.frozen?, show w.heap[V]? = _ from h]
theorem MsgC.put {w : World} {V : Nat} {a0 a1 a2 b0 b1 b2 : Int} {v v' : Value} (h : MsgC w V a0 a1 a2 v) (i : Nat) (u : Value) (he : (#[.int .i64 a0, .int .i64 a1, .int .i64 a2, v] : Array Value).setIfInBounds i u = #[.int .i64 b0, .int .i64 b1, .int .i64 b2, v']) : MsgC (w.setCell ⟨V, i, none⟩ u) V b0 b1 b2 v' := by
 unfold MsgC World.setCell
 unfold MsgC at h
 have he2 := congrArg Array.toList he
 simp [Array.getElem?_modify, h]
 simpa using he2
structure MgS (w W : World) (P V : Nat) (A : Option Addr) (c n q : Nat) (a0 a1 a2 : Int) (v : Value) : Prop where
 spot : SpotAt W P A c n q
 ptr : PtrAt W w.heap.size P
 msg : MsgC W V a0 a1 a2 v
 kp : Kp2 w W P V
section
variable {w W W' : World} {P V c n q q' m : Nat} {A : Option Addr} {a0 a1 a2 b0 b1 b2 : Int} {v v' : Value}
theorem MgS.num (h : MgS w W P V A c n q a0 a1 a2 v) (hP : P < w.heap.size) (hVP : V ≠ P) (hk : SpotAt W' P A c n q') (hg : W.grownBy W' (some P)) : MgS w W' P V A c n q' a0 a1 a2 v :=
 ⟨hk, h.ptr.grown hg hP, (hg.block _ h.msg.lt (fun e => hVP (Option.some.inj e))).trans h.msg, h.kp.num hg⟩
theorem MgS.below (h : MgS w W P V A c n q a0 a1 a2 v) (hP : P < w.heap.size) (hVP : V ≠ P) (hb : Below W.heap.size W W') : MgS w W' P V A c n q a0 a1 a2 v :=
 h.num hP hVP (h.spot.below hb h.spot.lt) (grown_of_below hb _)
theorem MgS.drew (h : MgS w W P V A c n q a0 a1 a2 v) (hP : P < w.heap.size) (hVP : V ≠ P) : MgS w W.drew P V A c n q a0 a1 a2 v := h.below hP hVP (below_drew1 (Below.refl _ _))
theorem MgS.onB (h : MgS w W P V A c n q a0 a1 a2 v) (hP : P < w.heap.size) (hV : V < w.heap.size) (hb : Below (w.heap.size + 1) W W') : MgS w W' P V A c n q a0 a1 a2 v :=
 ⟨(hb.block _ (by omega)).trans h.spot, (hb.block _ (by omega)).trans h.ptr, (hb.block _ (by omega)).trans h.msg, h.kp.below hb (Nat.le_succ _)⟩
theorem MgS.f (h : MgS w W P V A c n q a0 a1 a2 v) (i : Nat) : W.frozen? ⟨V, i, none⟩ = false := h.msg.f i
theorem MgS.put (h : MgS w W P V A c n q a0 a1 a2 v) (hVP : V ≠ P) (hV : V < w.heap.size) (i : Nat) (u : Value) (he : (#[.int .i64 a0, .int .i64 a1, .int .i64 a2, v] : Array Value).setIfInBounds i u = #[.int .i64 b0, .int .i64 b1, .int .i64 b2, v']) : MgS w (W.setCell ⟨V, i, none⟩ u) P V A c n q b0 b1 b2 v' :=
 ⟨(heap_set_ne W V i P u (Ne.symm hVP)).trans h.spot, (heap_set_ne W V i _ u (by omega)).trans h.ptr, h.msg.put i u he, h.kp.set i u⟩
theorem MgS.c0 (h : MgS w W P V A c n q a0 a1 a2 v) : W.cell? ⟨V, 0, none⟩ = some (.int .i64 a0) := h.msg.cells.1
theorem MgS.c1 (h : MgS w W P V A c n q a0 a1 a2 v) : W.cell? ⟨V, 1, none⟩ = some (.int .i64 a1) := h.msg.cells.2.1
theorem MgS.c2 (h : MgS w W P V A c n q a0 a1 a2 v) : W.cell? ⟨V, 2, none⟩ = some (.int .i64 a2) := h.msg.cells.2.2.1
end
def MgP (w : World) (P V : Nat) (A : Option Addr) (c : Nat) (b : List Int) (res : Rd MsgL) (e : Ending) (w' : World) : Prop :=
 Kp2 w w' P V ∧ match res with
 | .error f => e = .panicked (errCh f)
 | .ok (m, r) => e = .returned (.tuple #[]) ∧ ∃ v, MsgC w' V m.k m.who m.ver v ∧ ER w' w.heap.size v m.l ∧ SpotAt w' P A c b.length (b.length - r.length)
theorem MgP.ok {w w' : World} {P V q : Nat} {A : Option Addr} {c : Nat} {b : List Int} {res : Rd MsgL} {k who ver : Int} {xs : List K.S26} {r : List Int} {v : Value} (hr : res = .ok (⟨k, who, ver, xs⟩, r)) (h : MgS w w' P V A c b.length q k who ver v) (hl : ER w' w.heap.size v xs) (hq : b.length - r.length = q) : MgP w P V A c b res (.returned (.tuple #[])) w' := by
 subst hr
 subst hq
 exact ⟨h.kp, rfl, v, h.msg, hl, h.spot⟩
def msgR1.T : Bool × List (List Nat × List Nat) := (true, [([], []), ([0], [0]), ([1], [1]), ([], []), ([3], [3]), ([4, 2], [4]), ([], []), ([6], [6]), ([7, 5], [7]), ([0, 1, 2, 5, 8], []), ([9, 2, 8, 0, 1, 2, 5, 8], [2, 9]), ([0, 1, 2, 3, 4, 5, 8, 9, 10], []), ([11, 5, 10, 0, 1, 2, 3, 4, 5, 8, 9, 10], [5, 11]), ([0, 1, 2, 3, 4, 5, 6, 7, 8, 9, 10, 11, 12], []), ([13, 8, 12, 0, 1, 2, 3, 4, 5, 6, 7, 8, 9, 10, 11, 12], [8, 13])])
def msgR1.B : List Nat := [0, 1, 3, 0, 8, 31, 0, 64, 255, 511, 1023, 2047, 4095, 8191, 16383]
def msgR4.T : Bool × List (List Nat × List Nat) := (true, [([], []), ([0], [0]), ([], []), ([2], [2]), ([3], [3]), ([1, 4, 3], [1, 4]), ([0, 1, 2, 3, 4, 5], []), ([6, 5, 5, 0, 1, 2, 3, 4, 5], [5, 6])])
def msgR4.B : List Nat := [0, 1, 0, 4, 12, 31, 63, 127]
end Go.Proofs.Ytmbnjgnmblgjoaa.Man
end
section
namespace Go.Proofs.Ytmbnjgnmblgjoaa.Man
open Go.RowKit Go.Proofs.YtmbnjgnmblgjoaaW.PrintWords Go.Proofs.YtmbnjgnmblgjoaaW.PrintLast Go.Proofs.YtmbnjgnmblgjoaaW.PrintMore
set_option linter.unusedVariables false
set_option linter.unusedSimpArgs false
set_option maxRecDepth 100000
theorem MsgC.ne {w w1 : World} {E : Nat} {a0 a1 a2 : Int} {v : Value} (h : MsgC w E a0 a1 a2 v) (e : w1.heap[E]? = w.heap[E]?) : MsgC w1 E a0 a1 a2 v := e.trans h
def setMsg (w : World) (E : Nat) (b0 b1 b2 : Int) (u : Value) : World :=
 (((w.setCell ⟨E, 0, none⟩ (.int .i64 b0)).setCell ⟨E, 1, none⟩ (.int .i64 b1)).setCell ⟨E, 2, none⟩ (.int .i64 b2)).setCell ⟨E, 3, none⟩ u
theorem MsgC.set {w : World} {E : Nat} {a0 a1 a2 : Int} {v : Value} (h : MsgC w E a0 a1 a2 v) (b0 b1 b2 : Int) (u : Value) : MsgC (setMsg w E b0 b1 b2 u) E b0 b1 b2 u :=
 (((h.put 0 (.int .i64 b0) rfl).put 1 (.int .i64 b1) rfl).put 2 (.int .i64 b2) rfl).put 3 u rfl
theorem ER.setMsg {w : World} {base E : Nat} {v : Value} {xs : List K.S26} (h : ER w base v xs) (hE : E < base) (b0 b1 b2 : Int) (u : Value) : ER (setMsg w E b0 b1 b2 u) base v xs :=
 (((h.set hE 0 _).set hE 1 _).set hE 2 _).set hE 3 _
def MsgR (base : Nat) (m : MsgL) (r : Value) (w' : World) : Prop := ∃ u, r = .agg #[.int .i64 m.k, .int .i64 m.who, .int .i64 m.ver, u] ∧ ER w' base u m.l
end Go.Proofs.Ytmbnjgnmblgjoaa.Man
end
section
namespace Go.Proofs.Ytmbnjgnmblgjoaa.Man
open Go.RowKit Go.Proofs.YtmbnjgnmblgjoaaW.PrintWords Go.Proofs.YtmbnjgnmblgjoaaW.PrintLast Go.Proofs.YtmbnjgnmblgjoaaW.PrintMore
set_option linter.unusedVariables false
set_option linter.unusedSimpArgs false
set_option maxRecDepth 100000
attribute [local go_sem high] K.eqA111
abbrev stepV (x : K.S26) (A : Option Addr) (c : Nat) : Value := .agg #[.int .i64 x.f2.f0, .int .i64 x.f2.f1, .int .i64 x.f2.f2, .int .i64 x.f2.f3, .int .i64 x.f2.f4, .int .i64 x.f2.f5, .slice A x.f2.f6.length c, .int .i64 x.f2.f7]
end Go.Proofs.Ytmbnjgnmblgjoaa.Man
end
section
namespace Go.Proofs.Ytmbnjgnmblgjoaa.Man
open Go.RowKit Go.Proofs.YtmbnjgnmblgjoaaW.PrintWords Go.Proofs.YtmbnjgnmblgjoaaW.PrintLast Go.Proofs.YtmbnjgnmblgjoaaW.PrintMore
set_option linter.unusedVariables false
set_option linter.unusedSimpArgs false
set_option maxRecDepth 100000
def EC (w : World) (a : Addr) (x : K.S26) (A8 : Option Addr) (c8 : Nat) : Prop := w.cell? a = some (.int .i64 x.f0) ∧ w.cell? ⟨a.block, a.off + 1, none⟩ = some (.int .i64 x.f1) ∧ w.cell? ⟨a.block, a.off + 2, none⟩ = some (.int .i64 x.f2.f0) ∧ w.cell? ⟨a.block, a.off + 3, none⟩ = some (.int .i64 x.f2.f1) ∧ w.cell? ⟨a.block, a.off + 4, none⟩ = some (.int .i64 x.f2.f2) ∧ w.cell? ⟨a.block, a.off + 5, none⟩ = some (.int .i64 x.f2.f3) ∧ w.cell? ⟨a.block, a.off + 6, none⟩ = some (.int .i64 x.f2.f4) ∧ w.cell? ⟨a.block, a.off + 7, none⟩ = some (.int .i64 x.f2.f5) ∧ w.cell? ⟨a.block, a.off + 8, none⟩ = some (.slice A8 x.f2.f6.length c8) ∧ w.cell? ⟨a.block, a.off + 9, none⟩ = some (.int .i64 x.f2.f7)
theorem EC.below {w W : World} {a : Addr} {x : K.S26} {A8 : Option Addr} {c8 : Nat} (h : EC w a x A8 c8) (hb : Below w.heap.size w W) : EC W a x A8 c8 := by
 obtain ⟨h0, h1, h2, h3, h4, h5, h6, h7, h8, h9⟩ := h
 exact ⟨pw_cell_below hb h0, pw_cell_below hb h1, pw_cell_below hb h2, pw_cell_below hb h3, pw_cell_below hb h4, pw_cell_below hb h5, pw_cell_below hb h6, pw_cell_below hb h7, pw_cell_below hb h8, pw_cell_below hb h9⟩
theorem EC.at {w : World} {A : Option Addr} {n : Nat} {xs : List K.S26} (h : Kd.C K.k26 w A n xs) (i : Nat) (hi : i < n) : ∃ ad A8 c8, A = some ad ∧ EC w (ad.add (i * 10)) (K.rd_T26 xs i) A8 c8 ∧ (K.rd_T26 xs i).f2.f6.length ≤ c8 ∧ Kd.C K.k111 w A8 (K.rd_T26 xs i).f2.f6.length (K.rd_T26 xs i).f2.f6 := by
 obtain ⟨ad, A8, c8, e, h0, h1, h2, h3, h4, h5, h6, h7, h8, h9, hl, hc⟩ := K.at_T26 h (i : Int) (by omega) (by omega)
 rw [Int.toNat_natCast] at h0 h1 h2 h3 h4 h5 h6 h7 h8 h9
 exact ⟨ad, A8, c8, e, ⟨h0, h1, h2, h3, h4, h5, h6, h7, h8, h9⟩, hl, hc⟩
def entR6.T : Bool × List (List Nat × List Nat) := (true, [([], []), ([], []), ([0, 1], [0, 1]), ([2], [2]), ([3], [3]), ([], []), ([], []), ([5, 6], [5, 6]), ([7], [7]), ([8], [8]), ([4, 9], [4, 9]), ([10], [10]), ([11], [11]), ([11], [11]), ([12, 13, 11], [11, 12, 13]), ([14, 11], [11, 14]), ([15, 11], [11, 15]), ([11], [11]), ([11], [11]), ([17, 18, 11], [11, 17, 18]), ([19, 11], [11, 19]), ([20, 11], [11, 20]), ([16, 21, 11], [11, 16, 21]), ([11, 22], [11, 22]), ([23, 11], [23]), ([24], [24]), ([24], [24]), ([25, 26, 24], [24, 25, 26]), ([27, 24], [24, 27]), ([28, 24], [24, 28]), ([24], [24]), ([24], [24]), ([30, 31, 24], [24, 30, 31]), ([32, 24], [24, 32]), ([33, 24], [24, 33]), ([29, 34, 24, 24], [24, 29, 34]), ([35, 24], [24, 35]), ([24, 36], [24, 36])])
def entR6.B : List Nat := [0, 0, 3, 7, 15, 0, 0, 96, 224, 480, 1023, 2047, 4095, 4095, 16383, 32767, 65535, 4095, 4095, 397311, 921599, 1970175, 4194303, 8388607, 16777215, 33554431, 33554431, 134217727, 268435455, 536870911, 33554431, 33554431, 3254779903, 7549747199, 16139681791, 34359738367, 68719476735, 137438953471]
end Go.Proofs.Ytmbnjgnmblgjoaa.Man
end
section
namespace Go.Proofs.Ytmbnjgnmblgjoaa.Man
open Go.RowKit Go.Proofs.YtmbnjgnmblgjoaaW.PrintWords Go.Proofs.YtmbnjgnmblgjoaaW.PrintLast Go.Proofs.YtmbnjgnmblgjoaaW.PrintMore
set_option linter.unusedVariables false
set_option linter.unusedSimpArgs false
set_option maxRecDepth 100000
end Go.Proofs.Ytmbnjgnmblgjoaa.Man
end
section
namespace Go.Proofs.Ytmbnjgnmblgjoaa.K
open Go.RowKit Go.Proofs.YtmbnjgnmblgjoaaW.PrintWords Go.Proofs.YtmbnjgnmblgjoaaW.PrintLast Go.Proofs.YtmbnjgnmblgjoaaW.PrintMore
attribute [local go_sem] max2_int min2_int max_two min_two max_three min_three max_four min_four
set_option linter.unusedVariables false
set_option linter.unusedSimpArgs false
mutual
def emenderref09_Check.j0 : Nat → Bool → Int → Int → Int → Int → Int → Int → List (S111) → Int → Option (Int)
 | 0, _, _, _, _, _, _, _, _, _ => none
 | k + 1, x24, x130000, x130001, x130002, x130003, x130004, x130005, x130006, x130007 => if x24 = true then (some 1) else (if x130003 = 0 then (if x130004 = 0 then (emenderref09_Check.j1 k (x130005 == 0) x130000 x130001 x130002 x130003 x130004 x130005 x130006 x130007) else (emenderref09_Check.j1 k false x130000 x130001 x130002 x130003 x130004 x130005 x130006 x130007)) else (emenderref09_Check.j1 k false x130000 x130001 x130002 x130003 x130004 x130005 x130006 x130007))
def emenderref09_Check.j1 : Nat → Bool → Int → Int → Int → Int → Int → Int → List (S111) → Int → Option (Int)
 | 0, _, _, _, _, _, _, _, _, _ => none
 | k + 1, x3, x130000, x130001, x130002, x130003, x130004, x130005, x130006, x130007 => if x130000 = 0 then (if x3 = true then (emenderref09_Check.j2 k (x130007 == 0) x130000 x130001 x130002 x130003 x130004 x130005 x130006 x130007) else (emenderref09_Check.j2 k false x130000 x130001 x130002 x130003 x130004 x130005 x130006 x130007)) else (if x130000 = 1 then (if x130001 ≤ x130003 then (if x130003 < x130004 then (if x130004 ≤ x130002 then (if x130005 ≥ 0 then (if x130005 ≤ (x130006.length : Int) then (emenderref09_Check.j2 k (x130007 == 0) x130000 x130001 x130002 x130003 x130004 x130005 x130006 x130007) else (emenderref09_Check.j2 k false x130000 x130001 x130002 x130003 x130004 x130005 x130006 x130007)) else (emenderref09_Check.j2 k false x130000 x130001 x130002 x130003 x130004 x130005 x130006 x130007)) else (emenderref09_Check.j2 k false x130000 x130001 x130002 x130003 x130004 x130005 x130006 x130007)) else (emenderref09_Check.j2 k false x130000 x130001 x130002 x130003 x130004 x130005 x130006 x130007)) else (emenderref09_Check.j2 k false x130000 x130001 x130002 x130003 x130004 x130005 x130006 x130007)) else (if x130000 = 2 then (if x3 = true then (if x130001 < x130002 then (if (x130006.length : Int) = 0 then (if x130007 = 1 then (emenderref09_Check.j2 k true x130000 x130001 x130002 x130003 x130004 x130005 x130006 x130007) else (if x130007 = 2 then (emenderref09_Check.j2 k true x130000 x130001 x130002 x130003 x130004 x130005 x130006 x130007) else (emenderref09_Check.j2 k (x130007 == 4) x130000 x130001 x130002 x130003 x130004 x130005 x130006 x130007))) else (emenderref09_Check.j2 k false x130000 x130001 x130002 x130003 x130004 x130005 x130006 x130007)) else (emenderref09_Check.j2 k false x130000 x130001 x130002 x130003 x130004 x130005 x130006 x130007)) else (emenderref09_Check.j2 k false x130000 x130001 x130002 x130003 x130004 x130005 x130006 x130007)) else (if x130000 = 3 then (if x3 = true then (if x130001 < x130002 then (if (x130006.length : Int) = 0 then (if x130007 = 1 then (emenderref09_Check.j2 k true x130000 x130001 x130002 x130003 x130004 x130005 x130006 x130007) else (if x130007 = 2 then (emenderref09_Check.j2 k true x130000 x130001 x130002 x130003 x130004 x130005 x130006 x130007) else (emenderref09_Check.j2 k (x130007 == 4) x130000 x130001 x130002 x130003 x130004 x130005 x130006 x130007))) else (emenderref09_Check.j2 k false x130000 x130001 x130002 x130003 x130004 x130005 x130006 x130007)) else (emenderref09_Check.j2 k false x130000 x130001 x130002 x130003 x130004 x130005 x130006 x130007)) else (emenderref09_Check.j2 k false x130000 x130001 x130002 x130003 x130004 x130005 x130006 x130007)) else (emenderref09_Check.j2 k false x130000 x130001 x130002 x130003 x130004 x130005 x130006 x130007))))
def emenderref09_Check.j2 : Nat → Bool → Int → Int → Int → Int → Int → Int → List (S111) → Int → Option (Int)
 | 0, _, _, _, _, _, _, _, _, _ => none
 | k + 1, x4, x130000, x130001, x130002, x130003, x130004, x130005, x130006, x130007 => emenderref09_Check.l0 k x4 0 x130000 x130001 x130002 x130003 x130004 x130005 x130006 x130007
def emenderref09_Check.l0 : Nat → Bool → Int → Int → Int → Int → Int → Int → Int → List (S111) → Int → Option (Int)
 | 0, _, _, _, _, _, _, _, _, _, _ => none
 | k + 1, x4, x5, x130000, x130001, x130002, x130003, x130004, x130005, x130006, x130007 => if x5 < (x130006.length : Int) then (if x4 = true then (if 0 ≤ x5 then ((emenderref04_Right.f k ((rd_T111 x130006 x5).f0) ((rd_T111 x130006 x5).f1) ((rd_T111 x130006 x5).f2) ((rd_T111 x130006 x5).f3)).bind fun t131 => (emenderref09_Check.l0 k t131 (wrap64 (x5 + 1)) x130000 x130001 x130002 x130003 x130004 x130005 x130006 x130007)) else (none)) else (emenderref09_Check.l0 k false (wrap64 (x5 + 1)) x130000 x130001 x130002 x130003 x130004 x130005 x130006 x130007)) else (if x4 = true then (some 0) else (some 1))
end
def emenderref09_Check.f (k : Nat) (a0_0 : Int) (a0_1 : Int) (a0_2 : Int) (a0_3 : Int) (a0_4 : Int) (a0_5 : Int) (l0_6 : List (S111)) (a0_7 : Int) : Option (Int) := if (l0_6.length : Int) > 2048 then (some 2) else (if a0_1 < 0 then (emenderref09_Check.j0 k true a0_0 a0_1 a0_2 a0_3 a0_4 a0_5 l0_6 a0_7) else (if a0_1 > a0_2 then (emenderref09_Check.j0 k true a0_0 a0_1 a0_2 a0_3 a0_4 a0_5 l0_6 a0_7) else (emenderref09_Check.j0 k (decide (a0_2 > 2048)) a0_0 a0_1 a0_2 a0_3 a0_4 a0_5 l0_6 a0_7)))
theorem emenderref09_Check.mono_l : ∀ k, (∀ y0 y1 y2 y3 y4 y5 y6 y7 y8, LeO (emenderref09_Check.j0 k y0 y1 y2 y3 y4 y5 y6 y7 y8) (emenderref09_Check.j0 (k + 1) y0 y1 y2 y3 y4 y5 y6 y7 y8)) ∧ (∀ y0 y1 y2 y3 y4 y5 y6 y7 y8, LeO (emenderref09_Check.j1 k y0 y1 y2 y3 y4 y5 y6 y7 y8) (emenderref09_Check.j1 (k + 1) y0 y1 y2 y3 y4 y5 y6 y7 y8)) ∧ (∀ y0 y1 y2 y3 y4 y5 y6 y7 y8, LeO (emenderref09_Check.j2 k y0 y1 y2 y3 y4 y5 y6 y7 y8) (emenderref09_Check.j2 (k + 1) y0 y1 y2 y3 y4 y5 y6 y7 y8)) ∧ (∀ y0 y1 y2 y3 y4 y5 y6 y7 y8 y9, LeO (emenderref09_Check.l0 k y0 y1 y2 y3 y4 y5 y6 y7 y8 y9) (emenderref09_Check.l0 (k + 1) y0 y1 y2 y3 y4 y5 y6 y7 y8 y9))
 | 0 => ⟨fun _ _ _ _ _ _ _ _ _ r h => by simp [emenderref09_Check.j0] at h, fun _ _ _ _ _ _ _ _ _ r h => by simp [emenderref09_Check.j1] at h, fun _ _ _ _ _ _ _ _ _ r h => by simp [emenderref09_Check.j2] at h, fun _ _ _ _ _ _ _ _ _ _ r h => by simp [emenderref09_Check.l0] at h⟩
 | k + 1 => by
  obtain ⟨ih0, ih1, ih2, ih3⟩ := emenderref09_Check.mono_l k
  refine ⟨?_, ?_, ?_, ?_⟩
  · intro y0 y1 y2 y3 y4 y5 y6 y7 y8
    unfold emenderref09_Check.j0
    repeat' first
    | (with_reducible exact ih0 _ _ _ _ _ _ _ _ _)
    | (with_reducible exact ih1 _ _ _ _ _ _ _ _ _)
    | (with_reducible exact ih2 _ _ _ _ _ _ _ _ _)
    | (with_reducible exact ih3 _ _ _ _ _ _ _ _ _ _)
    | (with_reducible exact emenderref04_Right.mono _ _ _ _ _)
    | (with_reducible exact LeO.refl _)
    | (with_reducible exact LeO.none _)
    | (with_reducible refine LeO.ite ?_ ?_)
    | (with_reducible refine LeO.bind ?_ (fun _ => ?_))
    | exact ih0 _ _ _ _ _ _ _ _ _
    | exact ih1 _ _ _ _ _ _ _ _ _
    | exact ih2 _ _ _ _ _ _ _ _ _
    | exact ih3 _ _ _ _ _ _ _ _ _ _
    | exact emenderref04_Right.mono _ _ _ _ _
    | exact LeO.none _
    | refine LeO.ite ?_ ?_
    | refine LeO.bind ?_ (fun _ => ?_)
  · intro y0 y1 y2 y3 y4 y5 y6 y7 y8
    unfold emenderref09_Check.j1
    repeat' first
    | (with_reducible exact ih0 _ _ _ _ _ _ _ _ _)
    | (with_reducible exact ih1 _ _ _ _ _ _ _ _ _)
    | (with_reducible exact ih2 _ _ _ _ _ _ _ _ _)
    | (with_reducible exact ih3 _ _ _ _ _ _ _ _ _ _)
    | (with_reducible exact emenderref04_Right.mono _ _ _ _ _)
    | (with_reducible exact LeO.refl _)
    | (with_reducible exact LeO.none _)
    | (with_reducible refine LeO.ite ?_ ?_)
    | (with_reducible refine LeO.bind ?_ (fun _ => ?_))
    | exact ih0 _ _ _ _ _ _ _ _ _
    | exact ih1 _ _ _ _ _ _ _ _ _
    | exact ih2 _ _ _ _ _ _ _ _ _
    | exact ih3 _ _ _ _ _ _ _ _ _ _
    | exact emenderref04_Right.mono _ _ _ _ _
    | exact LeO.none _
    | refine LeO.ite ?_ ?_
    | refine LeO.bind ?_ (fun _ => ?_)
  · intro y0 y1 y2 y3 y4 y5 y6 y7 y8
    unfold emenderref09_Check.j2
    repeat' first
    | (with_reducible exact ih0 _ _ _ _ _ _ _ _ _)
    | (with_reducible exact ih1 _ _ _ _ _ _ _ _ _)
    | (with_reducible exact ih2 _ _ _ _ _ _ _ _ _)
    | (with_reducible exact ih3 _ _ _ _ _ _ _ _ _ _)
    | (with_reducible exact emenderref04_Right.mono _ _ _ _ _)
    | (with_reducible exact LeO.refl _)
    | (with_reducible exact LeO.none _)
    | (with_reducible refine LeO.ite ?_ ?_)
    | (with_reducible refine LeO.bind ?_ (fun _ => ?_))
    | exact ih0 _ _ _ _ _ _ _ _ _
    | exact ih1 _ _ _ _ _ _ _ _ _
    | exact ih2 _ _ _ _ _ _ _ _ _
    | exact ih3 _ _ _ _ _ _ _ _ _ _
    | exact emenderref04_Right.mono _ _ _ _ _
    | exact LeO.none _
    | refine LeO.ite ?_ ?_
    | refine LeO.bind ?_ (fun _ => ?_)
  · intro y0 y1 y2 y3 y4 y5 y6 y7 y8 y9
    unfold emenderref09_Check.l0
    repeat' first
    | (with_reducible exact ih0 _ _ _ _ _ _ _ _ _)
    | (with_reducible exact ih1 _ _ _ _ _ _ _ _ _)
    | (with_reducible exact ih2 _ _ _ _ _ _ _ _ _)
    | (with_reducible exact ih3 _ _ _ _ _ _ _ _ _ _)
    | (with_reducible exact emenderref04_Right.mono _ _ _ _ _)
    | (with_reducible exact LeO.refl _)
    | (with_reducible exact LeO.none _)
    | (with_reducible refine LeO.ite ?_ ?_)
    | (with_reducible refine LeO.bind ?_ (fun _ => ?_))
    | exact ih0 _ _ _ _ _ _ _ _ _
    | exact ih1 _ _ _ _ _ _ _ _ _
    | exact ih2 _ _ _ _ _ _ _ _ _
    | exact ih3 _ _ _ _ _ _ _ _ _ _
    | exact emenderref04_Right.mono _ _ _ _ _
    | exact LeO.none _
    | refine LeO.ite ?_ ?_
    | refine LeO.bind ?_ (fun _ => ?_)
theorem emenderref09_Check.mono : ∀ a0 a1 a2 a3 a4 a5 a6 a7 k, LeO (emenderref09_Check.f k a0 a1 a2 a3 a4 a5 a6 a7) (emenderref09_Check.f (k + 1) a0 a1 a2 a3 a4 a5 a6 a7) := by
 intro a0 a1 a2 a3 a4 a5 a6 a7 k
 obtain ⟨ih0, ih1, ih2, ih3⟩ := emenderref09_Check.mono_l k
 unfold emenderref09_Check.f
 repeat' first
  | (with_reducible exact ih0 _ _ _ _ _ _ _ _ _)
  | (with_reducible exact ih1 _ _ _ _ _ _ _ _ _)
  | (with_reducible exact ih2 _ _ _ _ _ _ _ _ _)
  | (with_reducible exact ih3 _ _ _ _ _ _ _ _ _ _)
  | (with_reducible exact emenderref04_Right.mono _ _ _ _ _)
  | (with_reducible exact LeO.refl _)
  | (with_reducible exact LeO.none _)
  | (with_reducible refine LeO.ite ?_ ?_)
  | (with_reducible refine LeO.bind ?_ (fun _ => ?_))
  | exact ih0 _ _ _ _ _ _ _ _ _
  | exact ih1 _ _ _ _ _ _ _ _ _
  | exact ih2 _ _ _ _ _ _ _ _ _
  | exact ih3 _ _ _ _ _ _ _ _ _ _
  | exact emenderref04_Right.mono _ _ _ _ _
  | exact LeO.none _
  | refine LeO.ite ?_ ?_
  | refine LeO.bind ?_ (fun _ => ?_)
end Go.Proofs.Ytmbnjgnmblgjoaa.K
end
section
namespace Go.Proofs.Ytmbnjgnmblgjoaa.K
open Go.RowKit Go.Proofs.YtmbnjgnmblgjoaaW.PrintWords Go.Proofs.YtmbnjgnmblgjoaaW.PrintLast Go.Proofs.YtmbnjgnmblgjoaaW.PrintMore
attribute [local go_sem] max2_int min2_int max_two min_two max_three min_three max_four min_four
set_option linter.unusedVariables false
set_option linter.unusedSimpArgs false
def emenderref16_check.f (k : Nat) (a0_0 : Int) (a0_1 : Int) (a0_2 : Int) (a0_3 : Int) (a0_4 : Int) (a0_5 : Int) (a0_6 : Int) (a0_7 : Int) (l0_8 : List (S111)) (a0_9 : Int) : Option (Int) := if a0_0 < 0 then (some 1) else (if a0_0 ≥ 4 then (some 1) else (if a0_1 < 0 then (some 1) else (if a0_1 > 2147483647 then (some 1) else ((emenderref09_Check.f k a0_2 a0_3 a0_4 a0_5 a0_6 a0_7 l0_8 a0_9).bind fun t133 => (some t133)))))
theorem emenderref16_check.mono : ∀ a0 a1 a2 a3 a4 a5 a6 a7 a8 a9 k, LeO (emenderref16_check.f k a0 a1 a2 a3 a4 a5 a6 a7 a8 a9) (emenderref16_check.f (k + 1) a0 a1 a2 a3 a4 a5 a6 a7 a8 a9) := by
 intro a0 a1 a2 a3 a4 a5 a6 a7 a8 a9 k
 unfold emenderref16_check.f
 repeat' first
  | (with_reducible exact emenderref09_Check.mono _ _ _ _ _ _ _ _ _)
  | (with_reducible exact LeO.refl _)
  | (with_reducible exact LeO.none _)
  | (with_reducible refine LeO.ite ?_ ?_)
  | (with_reducible refine LeO.bind ?_ (fun _ => ?_))
  | exact emenderref09_Check.mono _ _ _ _ _ _ _ _ _
  | exact LeO.none _
  | refine LeO.ite ?_ ?_
  | refine LeO.bind ?_ (fun _ => ?_)
mutual
def emenderref01_Get.j0 : Nat → List Int → Int → Bool → Option (Int × Int × Int)
 | 0, _, _, _ => none
 | k + 1, x0, x1, x17 => if x17 = true then (some (0, 0, 1)) else (emenderref01_Get.l0 k x0 x1 0 0)
def emenderref01_Get.l0 : Nat → List Int → Int → Int → Int → Option (Int × Int × Int)
 | 0, _, _, _, _ => none
 | k + 1, x0, x1, x7, x8 => if x8 < 10 then (if (wrap64 (x1 + x8)) ≥ (x0.length : Int) then (some (0, (x0.length : Int), 3)) else (if 0 ≤ (wrap64 (x1 + x8)) then (if (wrap64 (x1 + x8)) < (x0.length : Int) then (if (rd x0 (wrap64 (x1 + x8))) = 0 then (if x8 > 0 then (emenderref01_Get.j2 k x0 x1 x7 x8 (rd x0 (wrap64 (x1 + x8))) true) else (if x8 = 9 then (emenderref01_Get.j2 k x0 x1 x7 x8 (rd x0 (wrap64 (x1 + x8))) (decide ((rd x0 (wrap64 (x1 + x8))) > 1))) else (emenderref01_Get.j2 k x0 x1 x7 x8 (rd x0 (wrap64 (x1 + x8))) false))) else (if x8 = 9 then (emenderref01_Get.j2 k x0 x1 x7 x8 (rd x0 (wrap64 (x1 + x8))) (decide ((rd x0 (wrap64 (x1 + x8))) > 1))) else (emenderref01_Get.j2 k x0 x1 x7 x8 (rd x0 (wrap64 (x1 + x8))) false))) else (none)) else (none))) else (some (0, 0, 4))
def emenderref01_Get.j2 : Nat → List Int → Int → Int → Int → Int → Bool → Option (Int × Int × Int)
 | 0, _, _, _, _, _, _ => none
 | k + 1, x0, x1, x7, x8, x9, x49 => if x49 = true then (some (0, wrap64 (x1 + x8), 4)) else (if 0 ≤ (wrap64 (7 * x8)) then (if x9 < 128 then (some (Go.bits .or .u64 x7 (shl .u64 (IntKind.u64.wrap (Go.bits .and .u8 x9 127)) (wrap64 (7 * x8))), wrap64 ((wrap64 (x1 + x8)) + 1), 0)) else (emenderref01_Get.l0 k x0 x1 (Go.bits .or .u64 x7 (shl .u64 (IntKind.u64.wrap (Go.bits .and .u8 x9 127)) (wrap64 (7 * x8)))) (wrap64 (x8 + 1)))) else (none))
end
def emenderref01_Get.f (k : Nat) (l0 : List Int) (a1 : Int) : Option (Int × Int × Int) := if a1 < 0 then (emenderref01_Get.j0 k l0 a1 true) else (emenderref01_Get.j0 k l0 a1 (decide (a1 > (l0.length : Int))))
theorem emenderref01_Get.mono_l : ∀ k, (∀ y0 y1 y2, LeO (emenderref01_Get.j0 k y0 y1 y2) (emenderref01_Get.j0 (k + 1) y0 y1 y2)) ∧ (∀ y0 y1 y2 y3, LeO (emenderref01_Get.l0 k y0 y1 y2 y3) (emenderref01_Get.l0 (k + 1) y0 y1 y2 y3)) ∧ (∀ y0 y1 y2 y3 y4 y5, LeO (emenderref01_Get.j2 k y0 y1 y2 y3 y4 y5) (emenderref01_Get.j2 (k + 1) y0 y1 y2 y3 y4 y5))
 | 0 => ⟨fun _ _ _ r h => by simp [emenderref01_Get.j0] at h, fun _ _ _ _ r h => by simp [emenderref01_Get.l0] at h, fun _ _ _ _ _ _ r h => by simp [emenderref01_Get.j2] at h⟩
 | k + 1 => by
  obtain ⟨ih0, ih1, ih2⟩ := emenderref01_Get.mono_l k
  refine ⟨?_, ?_, ?_⟩
  · intro y0 y1 y2
    unfold emenderref01_Get.j0
    repeat' first
    | (with_reducible exact ih0 _ _ _)
    | (with_reducible exact ih1 _ _ _ _)
    | (with_reducible exact ih2 _ _ _ _ _ _)
    | (with_reducible exact LeO.refl _)
    | (with_reducible exact LeO.none _)
    | (with_reducible refine LeO.ite ?_ ?_)
    | (with_reducible refine LeO.bind ?_ (fun _ => ?_))
    | exact ih0 _ _ _
    | exact ih1 _ _ _ _
    | exact ih2 _ _ _ _ _ _
    | exact LeO.none _
    | refine LeO.ite ?_ ?_
    | refine LeO.bind ?_ (fun _ => ?_)
  · intro y0 y1 y2 y3
    unfold emenderref01_Get.l0
    repeat' first
    | (with_reducible exact ih0 _ _ _)
    | (with_reducible exact ih1 _ _ _ _)
    | (with_reducible exact ih2 _ _ _ _ _ _)
    | (with_reducible exact LeO.refl _)
    | (with_reducible exact LeO.none _)
    | (with_reducible refine LeO.ite ?_ ?_)
    | (with_reducible refine LeO.bind ?_ (fun _ => ?_))
    | exact ih0 _ _ _
    | exact ih1 _ _ _ _
    | exact ih2 _ _ _ _ _ _
    | exact LeO.none _
    | refine LeO.ite ?_ ?_
    | refine LeO.bind ?_ (fun _ => ?_)
  · intro y0 y1 y2 y3 y4 y5
    unfold emenderref01_Get.j2
    repeat' first
    | (with_reducible exact ih0 _ _ _)
    | (with_reducible exact ih1 _ _ _ _)
    | (with_reducible exact ih2 _ _ _ _ _ _)
    | (with_reducible exact LeO.refl _)
    | (with_reducible exact LeO.none _)
    | (with_reducible refine LeO.ite ?_ ?_)
    | (with_reducible refine LeO.bind ?_ (fun _ => ?_))
    | exact ih0 _ _ _
    | exact ih1 _ _ _ _
    | exact ih2 _ _ _ _ _ _
    | exact LeO.none _
    | refine LeO.ite ?_ ?_
    | refine LeO.bind ?_ (fun _ => ?_)
theorem emenderref01_Get.mono : ∀ a0 a1 k, LeO (emenderref01_Get.f k a0 a1) (emenderref01_Get.f (k + 1) a0 a1) := by
 intro a0 a1 k
 obtain ⟨ih0, ih1, ih2⟩ := emenderref01_Get.mono_l k
 unfold emenderref01_Get.f
 repeat' first
  | (with_reducible exact ih0 _ _ _)
  | (with_reducible exact ih1 _ _ _ _)
  | (with_reducible exact ih2 _ _ _ _ _ _)
  | (with_reducible exact LeO.refl _)
  | (with_reducible exact LeO.none _)
  | (with_reducible refine LeO.ite ?_ ?_)
  | (with_reducible refine LeO.bind ?_ (fun _ => ?_))
  | exact ih0 _ _ _
  | exact ih1 _ _ _ _
  | exact ih2 _ _ _ _ _ _
  | exact LeO.none _
  | refine LeO.ite ?_ ?_
  | refine LeO.bind ?_ (fun _ => ?_)
set_option maxHeartbeats 8000000 in
set_option maxRecDepth 100000 in
theorem emenderref01_Get.calls (k : Nat) (A0 : Option Addr) (c0 : Nat) (l0 : List Int) (a1 : Int) (r1 : Int) (r2 : Int) (r3 : Int) (w : World) (hr0 : Kd.C (Kd.int .u8) w A0 l0.length l0) (hc0 : l0.length ≤ c0) (h : emenderref01_Get.f k l0 a1 = some (r1, r2, r3)) :
 Calls Try.prog 156 #[.slice A0 l0.length c0, .int .i64 a1] w fun e w' => e = .returned (.tuple #[.int .u64 r1, .int .i64 r2, .int .i64 r3]) ∧ Drawn0 w w' := by
 have HR0 := Aside0.mk hr0
 have HC0 := Aside0.mk hc0
 clear hr0 hc0
 have H : (if a1 < 0 then (emenderref01_Get.j0 k l0 a1 true) else (emenderref01_Get.j0 k l0 a1 (decide (a1 > (l0.length : Int))))) = some (r1, r2, r3) := h
 clear h
 have HC3 := Aside0.mk H
 clear H
 go_enter Try.func156, Try.ntmps156
 go_upto_region 1 with (fail)
 go_cut [17] (fun v17 wc => ∃ (kq : Nat) (x17_2 : Bool), v17 = .bool x17_2 ∧ Aside0 (emenderref01_Get.j0 kq l0 a1 x17_2 = some (r1, r2, r3)) ∧ Aside0 (kq ≤ k) ∧ Drawn0 w wc)
 case first =>
  have H := HC3.out
  clear HC3
  by_cases c4 : a1 < 0
  · rw [if_pos c4] at H
    have c4b0 : decide (a1 < 0) = true := decide_eq_true c4
    clear c4
    (first | rw [c4b0] | (simp only [i64_w, i32_w]; rw [c4b0]) | skip)
    have H' := Aside0.mk H
    clear H
    go_wp2
    go_meet
    case rel => exact ⟨_, (true), (by first | rfl | (simp; done) | (simp [*]; done)), H', ⟨by first | omega | exact Nat.le_refl _⟩, by repeat (first | exact Drawn0.refl _ | apply Drawn0.step)⟩
  · rw [if_neg c4] at H
    have c4b0 : decide (a1 < 0) = false := decide_eq_false c4
    clear c4
    (first | rw [c4b0] | (simp only [i64_w, i32_w]; rw [c4b0]) | skip)
    have H' := Aside0.mk H
    clear H
    go_wp2
    go_meet
    case rel => exact ⟨_, (decide (a1 > (l0.length : Int))), (by first | rfl | (simp; done) | (simp [*]; done)), H', ⟨by first | omega | exact Nat.le_refl _⟩, by repeat (first | exact Drawn0.refl _ | apply Drawn0.step)⟩
 case rest =>
  clear HC3
  try clear c1
  try clear p2
  try clear c4
  try clear c4b0
  obtain ⟨kq, x17_2, rfl, HA, HJ2, ⟨mc2, rfl⟩⟩ := hcut
  cases kq with
  | zero => exact absurd HA.out (by simp [emenderref01_Get.j0])
  | succ kj2 =>
   have H := HA.out
   clear HA
   simp only [emenderref01_Get.j0] at H
   by_cases c5 : x17_2 = true
   · subst c5
     have H1 : (some (0, 0, 1)) = some (r1, r2, r3) := by rw [if_pos rfl] at H; exact H
     clear H
     have H := H1
     clear H1
     simp only [Option.some.injEq, Prod.mk.injEq] at H
     obtain ⟨rfl, rfl, rfl⟩ := H
     go_wp2
     go_ret3
     exact ⟨by first | rfl | (simp; done) | (simp [*]; done), by repeat (first | exact Drawn0.refl _ | apply Drawn0.step)⟩
   · replace c5 := Bool.eq_false_iff.mpr c5
     subst c5
     have H1 : (emenderref01_Get.l0 kj2 l0 a1 0 0) = some (r1, r2, r3) := by rw [if_neg (show ¬ (false = true) by decide)] at H; exact H
     clear H
     have H := H1
     clear H1
     have H' := Aside0.mk H
     clear H
     go_wp2
     go_loopg [7, 8] kj2 (fun kq v7 v8 w' => ∃ (x7_2 : Int) (x8_2 : Int), v7 = .int .u64 x7_2 ∧ v8 = .int .i64 x8_2 ∧ Aside0 (emenderref01_Get.l0 kq l0 a1 x7_2 x8_2 = some (r1, r2, r3)) ∧ Aside0 (kq ≤ kj2) ∧ Drawn0 w w')
     case atStart => exact ⟨(0), (0), (by first | rfl | (simp; done) | (simp [*]; done)), (by first | rfl | (simp; done) | (simp [*]; done)), H', ⟨Nat.le_refl _⟩, by repeat (first | exact Drawn0.refl _ | apply Drawn0.step)⟩
     case round =>
      clear H'
      try clear c1
      try clear c2
      try clear p2
      try clear c4
      try clear c4b0
      try clear c5
      try clear p2
      obtain ⟨x7_2, x8_2, rfl, rfl, HA, HK2, ⟨m2, rfl⟩⟩ := hrel
      cases gk with
      | zero => exact absurd HA.out (by simp [emenderref01_Get.l0])
      | succ k2 =>
       have H := HA.out
       clear HA
       simp only [emenderref01_Get.l0] at H
       by_cases c6 : x8_2 < 10
       · rw [if_pos c6] at H
         have c6b0 : decide (x8_2 < 10) = true := decide_eq_true c6
         clear c6
         by_cases c7 : (wrap64 (a1 + x8_2)) ≥ (l0.length : Int)
         · rw [if_pos c7] at H
           have c7b0 : decide ((l0.length : Int) ≤ (wrap64 (a1 + x8_2))) = true := decide_eq_true c7
           clear c7
           simp only [Option.some.injEq, Prod.mk.injEq] at H
           obtain ⟨rfl, rfl, rfl⟩ := H
           go_wp2
           go_ret3
           exact ⟨by first | rfl | (simp; done) | (simp [*]; done), by repeat (first | exact Drawn0.refl _ | apply Drawn0.step)⟩
         · rw [if_neg c7] at H
           have c7b0 : decide ((l0.length : Int) ≤ (wrap64 (a1 + x8_2))) = false := decide_eq_false c7
           clear c7
           obtain ⟨ji8, hji8⟩ : ∃ j_ : Int, (wrap64 (a1 + x8_2)) = j_ := ⟨_, rfl⟩
           replace H : (if 0 ≤ (ji8) then (if (ji8) < (l0.length : Int) then (if (rd l0 (ji8)) = 0 then (if x8_2 > 0 then (emenderref01_Get.j2 k2 l0 a1 x7_2 x8_2 (rd l0 (ji8)) true) else (if x8_2 = 9 then (emenderref01_Get.j2 k2 l0 a1 x7_2 x8_2 (rd l0 (ji8)) (decide ((rd l0 (ji8)) > 1))) else (emenderref01_Get.j2 k2 l0 a1 x7_2 x8_2 (rd l0 (ji8)) false))) else (if x8_2 = 9 then (emenderref01_Get.j2 k2 l0 a1 x7_2 x8_2 (rd l0 (ji8)) (decide ((rd l0 (ji8)) > 1))) else (emenderref01_Get.j2 k2 l0 a1 x7_2 x8_2 (rd l0 (ji8)) false))) else (none)) else (none)) = some (r1, r2, r3) := by first | (rw [hji8] at H; exact H) | (simp only [hji8] at H ⊢; exact H)
           (try rw [hji8] at c7b0)
           have hji8w : (IntKind.i64.wrap (a1 + x8_2)) = ji8 := (i64_w _).trans hji8
           by_cases c9 : 0 ≤ (ji8)
           · rw [if_pos c9] at H
             have c9b0 : decide (0 ≤ (ji8)) = true := decide_eq_true c9
             clear c9
             by_cases c10 : (ji8) < (l0.length : Int)
             · rw [if_pos c10] at H
               have c10b0 : decide ((ji8) < (l0.length : Int)) = true := decide_eq_true c10
               clear c10
               have HC11 := Aside0.mk H
               clear H
               have p134 : 0 ≤ ((ji8) : Int) := of_decide_eq_true (by first | (with_reducible assumption) | assumption)
               have q134 : (ji8) < (l0.length : Int) := of_decide_eq_true (by first | (with_reducible assumption) | assumption)
               obtain ⟨ad134, e134, hx134_0⟩ := Kd.at_int HR0.out (ji8) p134 q134
               cases e134
               replace p134 := eq_true p134
               replace q134 := eq_true q134
               go_upto_region 10 with (fail)
               go_cut [49] (fun v49 wc => ∃ (kq : Nat) (x49_10 : Bool), v49 = .bool x49_10 ∧ Aside0 (emenderref01_Get.j2 kq l0 a1 x7_2 x8_2 (rd l0 (ji8)) x49_10 = some (r1, r2, r3)) ∧ Aside0 (kq ≤ k2) ∧ Drawn0 w wc)
               case first =>
                have H := HC11.out
                clear HC11
                by_cases c12 : (rd l0 (ji8)) = 0
                · rw [if_pos c12] at H
                  have c12b0 : ((rd l0 (ji8)) == 0) = true := beq_iff_eq.mpr c12
                  have c12b1 : ((rd l0 (ji8)) != 0) = false := bne_eq_false_iff_eq.mpr c12
                  clear c12
                  (first | rw [c12b0] | (simp only [i64_w, i32_w]; rw [c12b0]) | skip)
                  by_cases c13 : x8_2 > 0
                  · rw [if_pos c13] at H
                    have c13b0 : decide (0 < x8_2) = true := decide_eq_true c13
                    clear c13
                    have H' := Aside0.mk H
                    clear H
                    go_wp2
                    go_meet
                    case rel => exact ⟨_, (true), (by first | rfl | (simp; done) | (simp [*]; done)), H', ⟨by have := HJ2.out; have := HK2.out; first | omega | exact Nat.le_refl _⟩, by repeat (first | exact Drawn0.refl _ | apply Drawn0.step)⟩
                  · rw [if_neg c13] at H
                    have c13b0 : decide (0 < x8_2) = false := decide_eq_false c13
                    clear c13
                    by_cases c14 : x8_2 = 9
                    · rw [if_pos c14] at H
                      have c14b0 : (x8_2 == 9) = true := beq_iff_eq.mpr c14
                      have c14b1 : (x8_2 != 9) = false := bne_eq_false_iff_eq.mpr c14
                      clear c14
                      have H' := Aside0.mk H
                      clear H
                      go_wp2
                      go_meet
                      case rel => exact ⟨_, (decide ((rd l0 (ji8)) > 1)), (by first | rfl | (simp; done) | (simp only [← hji8] <;> (first | rfl | simp)) | (simp [*]; done)), H', ⟨by have := HJ2.out; have := HK2.out; first | omega | exact Nat.le_refl _⟩, by repeat (first | exact Drawn0.refl _ | apply Drawn0.step)⟩
                    · rw [if_neg c14] at H
                      have c14b0 : (x8_2 == 9) = false := beq_eq_false_iff_ne.mpr c14
                      have c14b1 : (x8_2 != 9) = true := bne_iff_ne.mpr c14
                      have H' := Aside0.mk H
                      clear H
                      go_wp2
                      go_meet
                      case rel => exact ⟨_, (false), (by first | rfl | (simp; done) | (simp [*]; done)), H', ⟨by have := HJ2.out; have := HK2.out; first | omega | exact Nat.le_refl _⟩, by repeat (first | exact Drawn0.refl _ | apply Drawn0.step)⟩
                · rw [if_neg c12] at H
                  have c12b0 : ((rd l0 (ji8)) == 0) = false := beq_eq_false_iff_ne.mpr c12
                  have c12b1 : ((rd l0 (ji8)) != 0) = true := bne_iff_ne.mpr c12
                  (first | rw [c12b0] | (simp only [i64_w, i32_w]; rw [c12b0]) | skip)
                  by_cases c15 : x8_2 = 9
                  · rw [if_pos c15] at H
                    have c15b0 : (x8_2 == 9) = true := beq_iff_eq.mpr c15
                    have c15b1 : (x8_2 != 9) = false := bne_eq_false_iff_eq.mpr c15
                    clear c15
                    have H' := Aside0.mk H
                    clear H
                    go_wp2
                    go_meet
                    case rel => exact ⟨_, (decide ((rd l0 (ji8)) > 1)), (by first | rfl | (simp; done) | (simp only [← hji8] <;> (first | rfl | simp)) | (simp [*]; done)), H', ⟨by have := HJ2.out; have := HK2.out; first | omega | exact Nat.le_refl _⟩, by repeat (first | exact Drawn0.refl _ | apply Drawn0.step)⟩
                  · rw [if_neg c15] at H
                    have c15b0 : (x8_2 == 9) = false := beq_eq_false_iff_ne.mpr c15
                    have c15b1 : (x8_2 != 9) = true := bne_iff_ne.mpr c15
                    have H' := Aside0.mk H
                    clear H
                    go_wp2
                    go_meet
                    case rel => exact ⟨_, (false), (by first | rfl | (simp; done) | (simp [*]; done)), H', ⟨by have := HJ2.out; have := HK2.out; first | omega | exact Nat.le_refl _⟩, by repeat (first | exact Drawn0.refl _ | apply Drawn0.step)⟩
               case rest =>
                clear HC11
                try clear c1
                try clear p1
                try clear q1
                try clear hx1
                try clear c2
                try clear p2
                try clear c4
                try clear c4b0
                try clear c5
                try clear c6
                try clear c6b0
                try clear p6
                try clear c7
                try clear c7b0
                try clear c9
                try clear c9b0
                try clear c10
                try clear c10b0
                try clear c12
                try clear c12b0
                try clear c12b1
                try clear c13
                try clear c13b0
                try clear p13
                try clear q13
                try clear hx13
                try clear c14
                try clear c14b0
                try clear c14b1
                try clear c15
                try clear c15b0
                try clear c15b1
                try clear hx134_0
                try clear p134
                try clear p2
                try clear q134
                obtain ⟨kq, x49_10, rfl, HA, HJ10, ⟨mc10, rfl⟩⟩ := hcut
                cases kq with
                | zero => exact absurd HA.out (by simp [emenderref01_Get.j2])
                | succ kj10 =>
                 have H := HA.out
                 clear HA
                 simp only [emenderref01_Get.j2] at H
                 by_cases c16 : x49_10 = true
                 · subst c16
                   have H1 : (some (0, wrap64 (a1 + x8_2), 4)) = some (r1, r2, r3) := by rw [if_pos rfl] at H; exact H
                   clear H
                   have H := H1
                   clear H1
                   simp only [Option.some.injEq, Prod.mk.injEq] at H
                   obtain ⟨rfl, rfl, rfl⟩ := H
                   go_wp2
                   go_ret3
                   exact ⟨by first | rfl | (simp; done) | (simp only [← hji8] <;> (first | rfl | simp)) | (simp [*]; done), by repeat (first | exact Drawn0.refl _ | apply Drawn0.step)⟩
                 · replace c16 := Bool.eq_false_iff.mpr c16
                   subst c16
                   have H1 : (if 0 ≤ (wrap64 (7 * x8_2)) then (if (rd l0 (ji8)) < 128 then (some (Go.bits .or .u64 x7_2 (shl .u64 (IntKind.u64.wrap (Go.bits .and .u8 (rd l0 (ji8)) 127)) (wrap64 (7 * x8_2))), wrap64 ((wrap64 (a1 + x8_2)) + 1), 0)) else (emenderref01_Get.l0 kj10 l0 a1 (Go.bits .or .u64 x7_2 (shl .u64 (IntKind.u64.wrap (Go.bits .and .u8 (rd l0 (ji8)) 127)) (wrap64 (7 * x8_2)))) (wrap64 (x8_2 + 1)))) else (none)) = some (r1, r2, r3) := by rw [if_neg (show ¬ (false = true) by decide)] at H; exact H
                   clear H
                   have H := H1
                   clear H1
                   obtain ⟨ji17, hji17⟩ : ∃ j_ : Int, (wrap64 (7 * x8_2)) = j_ := ⟨_, rfl⟩
                   replace H : (if 0 ≤ (ji17) then (if (rd l0 (ji8)) < 128 then (some (Go.bits .or .u64 x7_2 (shl .u64 (IntKind.u64.wrap (Go.bits .and .u8 (rd l0 (ji8)) 127)) (ji17)), wrap64 ((wrap64 (a1 + x8_2)) + 1), 0)) else (emenderref01_Get.l0 kj10 l0 a1 (Go.bits .or .u64 x7_2 (shl .u64 (IntKind.u64.wrap (Go.bits .and .u8 (rd l0 (ji8)) 127)) (ji17))) (wrap64 (x8_2 + 1)))) else (none)) = some (r1, r2, r3) := by first | (rw [hji17] at H; exact H) | (simp only [hji17] at H ⊢; exact H)
                   have hji17w : (IntKind.i64.wrap (7 * x8_2)) = ji17 := (i64_w _).trans hji17
                   by_cases c18 : 0 ≤ (ji17)
                   · rw [if_pos c18] at H
                     have c18b0 := eq_true c18
                     have c18b1 : decide (0 ≤ (ji17)) = true := decide_eq_true c18
                     clear c18
                     obtain ⟨ji19, hji19⟩ : ∃ j_ : Int, (shl .u64 (IntKind.u64.wrap (Go.bits .and .u8 (rd l0 (ji8)) 127)) (ji17)) = j_ := ⟨_, rfl⟩
                     replace H : (if (rd l0 (ji8)) < 128 then (some (Go.bits .or .u64 x7_2 (ji19), wrap64 ((wrap64 (a1 + x8_2)) + 1), 0)) else (emenderref01_Get.l0 kj10 l0 a1 (Go.bits .or .u64 x7_2 (ji19)) (wrap64 (x8_2 + 1)))) = some (r1, r2, r3) := by first | (rw [hji19] at H; exact H) | (simp only [hji19] at H ⊢; exact H)
                     have hji19_ : (IntKind.u64.wrap ((IntKind.u64.wrap (Go.bits .and .u8 (rd l0 (ji8)) 127)) * 2 ^ min (ji17).toNat 64)) = ji19 := hji19
                     have hji19z : (ji17) ≤ 64 → (IntKind.u64.wrap ((IntKind.u64.wrap (Go.bits .and .u8 (rd l0 (ji8)) 127)) * 2 ^ (ji17).toNat)) = ji19 := shl_small hji19
                     by_cases c20 : (rd l0 (ji8)) < 128
                     · rw [if_pos c20] at H
                       have c20b0 : decide ((rd l0 (ji8)) < 128) = true := decide_eq_true c20
                       clear c20
                       simp only [Option.some.injEq, Prod.mk.injEq] at H
                       obtain ⟨rfl, rfl, rfl⟩ := H
                       go_wp2
                       go_ret3
                       exact ⟨by first | rfl | (simp; done) | (simp only [← hji8, ← hji17, ← hji19] <;> (first | rfl | simp)) | (simp [*]; done), by repeat (first | exact Drawn0.refl _ | apply Drawn0.step)⟩
                     · rw [if_neg c20] at H
                       have c20b0 : decide ((rd l0 (ji8)) < 128) = false := decide_eq_false c20
                       clear c20
                       have H' := Aside0.mk H
                       clear H
                       go_wp2
                       go_roundg kj10
                       case measure => have := HJ2.out; have := HK2.out; have := HJ10.out; omega
                       case rel => exact ⟨(Go.bits .or .u64 x7_2 (ji19)), (wrap64 (x8_2 + 1)), (by first | rfl | (simp; done) | (simp only [← hji19] <;> (first | rfl | simp)) | (simp [*]; done)), (by first | rfl | (simp; done) | (simp [*]; done)), H', ⟨by have := HJ2.out; have := HK2.out; have := HJ10.out; omega⟩, by repeat (first | exact Drawn0.refl _ | apply Drawn0.step)⟩
                   · rw [if_neg c18] at H
                     exact absurd H (by simp)
             · rw [if_neg c10] at H
               exact absurd H (by simp)
           · rw [if_neg c9] at H
             exact absurd H (by simp)
       · rw [if_neg c6] at H
         have c6b0 : decide (x8_2 < 10) = false := decide_eq_false c6
         clear c6
         simp only [Option.some.injEq, Prod.mk.injEq] at H
         obtain ⟨rfl, rfl, rfl⟩ := H
         go_wp2
         go_ret3
         exact ⟨by first | rfl | (simp; done) | (simp [*]; done), by repeat (first | exact Drawn0.refl _ | apply Drawn0.step)⟩
def IsS180 (w0 W : World) (g : Nat) (f0 : List Int) (f1 : Int) (f2 : Int) : Prop := ∃ A0 c0, W.heap[g]? = some (.cells #[.slice A0 f0.length c0, .int .i64 f1, .int .i64 f2] 180 (0, 0)) ∧ w0.heap.size ≤ g ∧ Kd.C (Kd.int .u8) w0 A0 f0.length f0
theorem IsS180.grown {w0 W : World} {g : Nat} {f0 : List Int} {f1 : Int} {f2 : Int} {W1 : World} {row : Option Nat} (h : IsS180 w0 W g f0 f1 f2) (hw : W.grownBy W1 row) (hne : some g ≠ row) : IsS180 w0 W1 g f0 f1 f2 := by
 obtain ⟨A0, c0, hb, hg, hr0⟩ := h
 exact ⟨A0, c0, blk_grown hb hw hne, hg, hr0⟩
theorem IsS180.kept {w0 W : World} {g : Nat} {f0 : List Int} {f1 : Int} {f2 : Int} {W1 : World} {S : Nat → Prop} (h : IsS180 w0 W g f0 f1 f2) (hk : Kept W W1 S) (hne : ¬ S g) : IsS180 w0 W1 g f0 f1 f2 := by
 obtain ⟨A0, c0, hb, hg, hr0⟩ := h
 exact ⟨A0, c0, blk_kept hb hk hne, hg, hr0⟩
theorem IsS180.below {w0 W : World} {g : Nat} {f0 : List Int} {f1 : Int} {f2 : Int} {W1 : World} (h : IsS180 w0 W g f0 f1 f2) (hw : Below W.heap.size W W1) : IsS180 w0 W1 g f0 f1 f2 := h.grown (grown_of_below hw none) (by simp)
theorem IsS180.alloc {w0 W : World} {g : Nat} {f0 : List Int} {f1 : Int} {f2 : Int} (h : IsS180 w0 W g f0 f1 f2) (o : Obj) : IsS180 w0 (W.alloc o) g f0 f1 f2 := h.below (below_alloc (Below.refl _ _) o)
theorem IsS180.drewN {w0 W : World} {g : Nat} {f0 : List Int} {f1 : Int} {f2 : Int} (h : IsS180 w0 W g f0 f1 f2) (m : Nat) : IsS180 w0 (W.drewN m) g f0 f1 f2 := h
theorem IsS180.drew {w0 W : World} {g : Nat} {f0 : List Int} {f1 : Int} {f2 : Int} (h : IsS180 w0 W g f0 f1 f2) : IsS180 w0 W.drew g f0 f1 f2 := h
theorem IsS180.at_ {w0 W : World} {g : Nat} {f0 : List Int} {f1 : Int} {f2 : Int} {w' : World} {m : Nat} (hq : W.drewN m = w') (h : IsS180 w0 W g f0 f1 f2) : IsS180 w0 w' g f0 f1 f2 := by subst hq; exact IsS180.drewN h m
theorem IsS180.apart {w0 W : World} {g : Nat} {f0 : List Int} {f1 : Int} {f2 : Int} {α : Type} {d : Kd α} {e : Nat} {base : Nat} {ok : Nat → Prop} {v : Value} {xs : List α} (h : IsS180 w0 W g f0 f1 f2) (ho : d.R e W base ok v xs) (ht : ∀ q, q ∈ e :: d.E → q ≠ 180) : d.R e W base (fun k => ok k ∧ k ≠ g) v xs := by
 obtain ⟨A0, c0, hb, hg, hr0⟩ := h
 exact Kd.R_types ho hb ht
theorem IsS180.own_ne {w0 W : World} {g : Nat} {f0 : List Int} {f1 : Int} {f2 : Int} {α : Type} {d : Kd α} {e : Nat} {base : Nat} {ok : Nat → Prop} {v : Value} {xs : List α} (h : IsS180 w0 W g f0 f1 f2) (ho : d.R e W base ok v xs) (ht : e ≠ 180) : some g ≠ v.ownBlock := by
 obtain ⟨A0, c0, hb, hg, hr0⟩ := h
 exact Kd.R_ne ho hb ht
theorem IsS180.lt {w0 W : World} {g : Nat} {f0 : List Int} {f1 : Int} {f2 : Int} (h : IsS180 w0 W g f0 f1 f2) : g < W.heap.size := by
 obtain ⟨A0, c0, hb, hg, hr0⟩ := h
 exact blk_lt hb
def emenderref16_reader_end.f (s0_0 : List Int) (s0_1 : Int) (s0_2 : Int) (a1 : Bool) : Option (Int × Int × Int) := if s0_2 = 0 then (if s0_1 < (s0_0.length : Int) then (some (4, s0_1, 4)) else (if a1 = true then (some (s0_2, s0_1, s0_2)) else (some (4, s0_1, 4)))) else (some (s0_2, s0_1, s0_2))
end Go.Proofs.Ytmbnjgnmblgjoaa.K
end
section
namespace Go.Proofs.Ytmbnjgnmblgjoaa.Man
open Go.RowKit Go.Proofs.Ytmbnjgnmblgjoaa.K Go.Proofs.YtmbnjgnmblgjoaaW.PrintWords Go.Proofs.YtmbnjgnmblgjoaaW.PrintLast Go.Proofs.YtmbnjgnmblgjoaaW.PrintMore
set_option linter.unusedVariables false
set_option linter.unusedSimpArgs false
set_option maxRecDepth 100000
theorem shl_at (x : Int) (i : Nat) (hi : i ≤ 9) : shl .u64 x (wrap64 (7 * (i : Int))) = IntKind.u64.wrap (x * 2 ^ (7 * i)) := by
 have hw : wrap64 (7 * (i : Int)) = ((7 * i : Nat) : Int) := by unfold wrap64; omega
 rw [hw]
 unfold shl
 rw [Int.toNat_natCast, Nat.min_eq_left (show 7 * i ≤ IntKind.u64.bits by show 7 * i ≤ 64; omega)]
theorem put_together (n i : Nat) (c : Int) (hi : i ≤ 9) (hn : n < 128 ^ i) (h0 : 0 ≤ c) (h1 : c ≤ 255) (m : Nat) (hm : c % 128 = (m : Int)) (hroom : m * 128 ^ i < 18446744073709551616) :
 Go.bits .or .u64 (n : Int) (shl .u64 (IntKind.u64.wrap (Go.bits .and .u8 c 127)) (wrap64 (7 * (i : Int)))) = ((n + m * 128 ^ i : Nat) : Int) := by
 have hmm : m < 128 := by omega
 have e : IntKind.u64.wrap (c % 128) = (m : Int) := by rw [hm, IntKind.wrap_u64]; omega
 rw [shl_at _ i hi, and127 c h0 h1, e, shl_wrap (m : Int) m i rfl hroom, or_shl n m i hi hn hroom]
theorem wadd (p i : Nat) (h : p + i < 4611686018427387904) : wrap64 ((p : Int) + (i : Int)) = ((p + i : Nat) : Int) := by unfold wrap64; omega
theorem w7 (i : Nat) (h : i ≤ 9) : 0 ≤ wrap64 (7 * (i : Int)) := by
 have hw : wrap64 (7 * (i : Int)) = ((7 * i : Nat) : Int) := by unfold wrap64; omega
 rw [hw]; exact Int.natCast_nonneg _
theorem rd_at (b : List Int) (q : Nat) (h : q < b.length) : rd b (q : Int) = b[q] := by unfold rd; rw [Int.toNat_natCast]; simp [List.getD, h]
def sh (p : Nat) (r : Nat × Nat × Int) : Int × Int × Int := ((r.1 : Int), (p : Int) + (r.2.1 : Int), r.2.2)
theorem rget_run (b : List Int) (hB : areBytesN b = true) (p : Nat) (hlen : b.length ≤ 140737488351232) (d : Nat) : ∀ (k i n : Nat), 9 - i = d → i ≤ 9 → p + i ≤ b.length → n < 128 ^ i → 2 * d + 2 < k →
 emenderref01_Get.l0 k b (p : Int) (n : Int) (i : Int) = some (sh p (getL ((b.drop p).drop i) i n)) := by
 induction d with
 | zero =>
  intro k i n h1 h2 h3 hn hk
  obtain rfl : i = 9 := by omega
  obtain ⟨k, rfl⟩ : ∃ m, k = m + 1 := ⟨k - 1, by omega⟩
  obtain ⟨k, rfl⟩ : ∃ m, k = m + 1 := ⟨k - 1, by omega⟩
  rw [emenderref01_Get.l0, wadd p 9 (by omega), if_pos (by decide)]
  by_cases hge : p + 9 = b.length
  · rw [if_pos (by omega)]
    have : (b.drop p).drop 9 = [] := by rw [List.drop_drop]; exact List.drop_eq_nil_of_le (by omega)
    rw [this, getL, sh]
    have e : (b.length : Int) = (p : Int) + ((9 : Nat) : Int) := by omega
    rw [e]; rfl
  · have hlt : p + 9 < b.length := by omega
    have hrd := rd_at b (p + 9) hlt
    obtain ⟨c0, c1⟩ := getN_get hB hlt
    have hgd : b.getD (p + 9) 0 = b[p + 9] := by simp [List.getD, hlt]
    rw [hgd] at c0 c1
    have hdd : (b.drop p).drop 9 = b[p + 9] :: (b.drop p).drop 10 := by
     rw [List.drop_drop, List.drop_drop, List.drop_eq_getElem_cons (show p + 9 < b.length from hlt)]
    rw [if_neg (by omega), if_pos (by omega), if_pos (by omega), hrd, hdd, getL]
    generalize b[p + 9] = c at *
    clear hrd hgd hdd
    have e9 : (((9 : Nat) : Int) = 9) = True := by simp
    by_cases hz : c = 0
    · rw [if_pos hz, if_pos (by decide), emenderref01_Get.j2, if_pos rfl, if_pos (.inl ⟨by decide, hz⟩), wadd p 9 (by omega), sh]
      rfl
    · rw [if_neg hz, if_pos (by decide)]
      by_cases hg : c > 1
      · rw [decide_eq_true hg, emenderref01_Get.j2, if_pos rfl, if_pos (.inr ⟨rfl, hg⟩), wadd p 9 (by omega), sh]
        rfl
      · obtain rfl : c = 1 := by omega
        have hr := put_together n 9 1 (by decide) hn (by decide) (by decide) 1 (by decide) (by decide)
        rw [decide_eq_false hg, emenderref01_Get.j2, if_neg (by decide), if_pos (w7 9 (by decide)), if_pos (by decide), hr, if_neg (by simp), if_pos (by decide), wadd p 9 (by omega), sh, wrap_succ (p + 9) (by omega)]
        have e : ((p + 9 + 1 : Nat) : Int) = (p : Int) + ((9 + 1 : Nat) : Int) := by omega
        rw [e]; rfl
 | succ d ih =>
  intro k i n h1 h2 h3 hn hk
  obtain ⟨k, rfl⟩ : ∃ m, k = m + 1 := ⟨k - 1, by omega⟩
  obtain ⟨k, rfl⟩ : ∃ m, k = m + 1 := ⟨k - 1, by omega⟩
  have hi9 : i < 9 := by omega
  rw [emenderref01_Get.l0, wadd p i (by omega), if_pos (by omega)]
  by_cases hge : p + i = b.length
  · rw [if_pos (by omega)]
    have : (b.drop p).drop i = [] := by rw [List.drop_drop]; exact List.drop_eq_nil_of_le (by omega)
    rw [this, getL, sh]
    have e : (b.length : Int) = (p : Int) + (i : Int) := by omega
    rw [e]; rfl
  · have hlt : p + i < b.length := by omega
    have hrd := rd_at b (p + i) hlt
    obtain ⟨c0, c1⟩ := getN_get hB hlt
    have hgd : b.getD (p + i) 0 = b[p + i] := by simp [List.getD, hlt]
    rw [hgd] at c0 c1
    have hdd : (b.drop p).drop i = b[p + i] :: (b.drop p).drop (i + 1) := by
     rw [List.drop_drop, List.drop_drop, List.drop_eq_getElem_cons (show p + i < b.length from hlt)]
     rfl
    have ih' := fun n' hn' => ih k (i + 1) n' (by omega) (by omega) (by omega) hn' (by omega)
    rw [if_neg (by omega), if_pos (by omega), if_pos (by omega), hrd, hdd, getL]
    generalize b[p + i] = c at *
    clear hrd hgd hdd ih
    have hni : ¬ ((i : Int) = 9) := by omega
    have fin : ∀ (hbad : ¬ ((0 < i ∧ c = 0) ∨ (i = 9 ∧ 1 < c))), emenderref01_Get.j2 (k + 1) b (p : Int) (n : Int) (i : Int) c false = some (sh p (if (0 < i ∧ c = 0) ∨ (i = 9 ∧ 1 < c) then (0, i, 4) else if c < 128 then (n + c.toNat * 128 ^ i, i + 1, 0) else getL ((b.drop p).drop (i + 1)) (i + 1) (n + (c.toNat - 128) * 128 ^ i))) := by
     intro hbad
     rw [emenderref01_Get.j2, if_neg (by decide), if_pos (w7 i h2), if_neg hbad]
     by_cases hs : c < 128
     · have hr := put_together n i c h2 hn c0 c1 c.toNat (by omega) (room_at _ _ hi9 (by omega))
       rw [if_pos hs, hr, wadd p i (by omega), wrap_succ (p + i) (by omega), if_pos hs, sh]
       have : ((p + i + 1 : Nat) : Int) = (p : Int) + ((i + 1 : Nat) : Int) := by omega
       rw [this]
     · have hr := put_together n i c h2 hn c0 c1 (c.toNat - 128) (by omega) (room_at _ _ hi9 (by omega))
       rw [if_neg hs, hr, wrap_succ i (by omega), if_neg hs]
       refine ih' _ ?_
       have h2 : (c.toNat - 128 + 1) * 128 ^ i ≤ 128 * 128 ^ i := Nat.mul_le_mul_right _ (by omega)
       rw [pow128]
       rw [Nat.add_mul] at h2
       omega
    by_cases hz : c = 0
    · rw [if_pos hz]
      by_cases h0 : 0 < i
      · rw [if_pos (by omega), emenderref01_Get.j2, if_pos rfl, if_pos (.inl ⟨h0, hz⟩), wadd p i (by omega), sh]
        have e : ((p + i : Nat) : Int) = (p : Int) + (i : Int) := by omega
        rw [e]; rfl
      · rw [if_neg (by omega), if_neg hni]
        exact fin (by omega)
    · rw [if_neg hz, if_neg hni]
      exact fin (by omega)
theorem rget_f (b : List Int) (hB : areBytesN b = true) (p : Int) (k : Nat) (hlen : b.length ≤ 140737488351232) (hk : 30 ≤ k) : emenderref01_Get.f k b p = some (getF b p) := by
 obtain ⟨k, rfl⟩ : ∃ m, k = m + 1 := ⟨k - 1, by omega⟩
 unfold emenderref01_Get.f getF
 by_cases h0 : p < 0
 · rw [if_pos h0, emenderref01_Get.j0, if_pos rfl, if_pos (.inl h0)]
 · rw [if_neg h0]
   by_cases h1 : p > (b.length : Int)
   · rw [decide_eq_true h1, emenderref01_Get.j0, if_pos rfl, if_pos (.inr h1)]
   · rw [decide_eq_false h1, emenderref01_Get.j0, if_neg (by decide), if_neg (by omega)]
     obtain ⟨q, rfl⟩ : ∃ q : Nat, p = (q : Int) := ⟨p.toNat, by omega⟩
     have := rget_run b hB q hlen 9 k 0 0 (by decide) (by decide) (by omega) (by decide) (by omega)
     rw [List.drop_zero] at this
     exact this
set_option maxHeartbeats 4000000 in
theorem rget_is (A : Option Addr) (c : Nat) (b : List Int) (p : Nat) (w : World) (hC : Kd.C (Kd.int .u8) w A b.length b) (hc : b.length ≤ c) (hB : areBytesN b = true) (hl : b.length ≤ 140737488351232) :
 Calls Try.prog 156 #[.slice A b.length c, .int .i64 p] w fun e w' => e = .returned (.tuple #[.int .u64 (getF b p).1, .int .i64 (getF b p).2.1, .int .i64 (getF b p).2.2]) ∧ ∃ m, w' = w.drewN m :=
 (emenderref01_Get.calls 30 A c b p _ _ _ w hC hc (rget_f b hB p 30 hl (by omega))).mono fun _ _ ⟨e, h⟩ => ⟨e, h.out⟩
end Go.Proofs.Ytmbnjgnmblgjoaa.Man
end
section
namespace Go.Proofs.Ytmbnjgnmblgjoaa.Man
open Go.RowKit Go.Proofs.YtmbnjgnmblgjoaaW.PrintWords Go.Proofs.YtmbnjgnmblgjoaaW.PrintLast Go.Proofs.YtmbnjgnmblgjoaaW.PrintMore
set_option linter.unusedVariables false
set_option linter.unusedSimpArgs false
set_option maxRecDepth 100000
set_option maxHeartbeats 4000000 in
theorem rnumsB_is {w : World} {v : Value} {b : List Int} (hv : BR w w.heap.size v b) (A1 : Option Addr) (c1 : Nat) (l : List Int) (hl : Kd.C (Kd.int .i64) w A1 l.length l) (hn : NumsOk l) (hl5 : l.length ≤ 5) (hb : b.length ≤ 130000000000000) :
 Calls Try.prog 112 #[v, .slice A1 l.length c1] w fun e w' => ∃ v', e = .returned v' ∧ BR w' w.heap.size v' (b ++ vbs l) ∧ Below w.heap.size w w' := by
 have hvl := vbs_le l hn
 have HV := Lib.hid hv
 have HL := Lib.hid hl
 have HN := Lib.hid hn
 clear hv hl hn
 go_enter Try.func112, Try.ntmps112
 go_wp2
 go_loopg [0, 5] l.length (fun g s0 s5 wr => ∃ i : Nat, s5 = .int .i64 i ∧ i ≤ l.length ∧ g = l.length - i ∧ Hid (BR wr w.heap.size s0 (b ++ vbs (l.take i))) ∧ Hid (Below w.heap.size w wr))
 case atStart => exact ⟨0, rfl, Nat.zero_le _, rfl, Lib.hid (by simpa [vbs] using HV.out), Lib.hid (Below.refl _ _)⟩
 case round =>
  clear HV
  obtain ⟨i, rfl, hi, hg, HR, HB⟩ := hrel
  obtain ⟨ys, hys⟩ : ∃ ys, b ++ vbs (l.take i) = ys := ⟨_, rfl⟩
  rw [hys] at HR
  obtain ⟨A3, c3, rfl, hk3, hC3⟩ := BR.len HR.out
  have HC3 := Lib.hid hC3
  have HR3 := HR
  clear HR hC3 hk3
  by_cases hlt : i < l.length
  · have e1 := vbs_take_succ l i hlt
    have e2 := vbs_take_le l (i + 1)
    obtain ⟨ad, ea, hc⟩ := Kd.at_int (Kd.C_below HL.out HB.out) (i : Int) (by omega) (by omega)
    subst ea
    obtain ⟨hx0, hx1⟩ := HN.out i hlt
    have hrd : rd l (i : Int) = l.getD i 0 := rfl
    rw [hrd, Int.toNat_natCast] at hc
    clear hrd
    generalize l.getD i 0 = x at e1 hc hx0 hx1
    obtain ⟨n, rfl⟩ : ∃ n : Nat, x = (n : Int) := ⟨x.toNat, by omega⟩
    rw [Int.toNat_natCast] at e1
    have hz : ys ++ vb n = b ++ vbs (l.take (i + 1)) := by rw [e1, ← hys, List.append_assoc]
    have hroom : (ys ++ vbs [(n : Int)]).length ≤ 140737488355328 := by rw [vbs_one, hz]; rw [List.length_append]; omega
    have hU : IntKind.u64.wrap (n : Int) = (n : Int) := by rw [IntKind.wrap_u64]; omega
    have hbe : Below wr.heap.size wr (wr.alloc (.cells #[.int .u64 (n : Int)] 90)) := (Below.refl _ _).alloc (Nat.le_refl _) _
    have HO := Lib.hid (rput_is A3 (some ⟨wr.heap.size, 0, none⟩) c3 1 ys [(n : Int)] _ (Kd.C_below HC3.out hbe) (C_box wr .u64 (n : Int) 90) (u64_one n (by omega)) hroom)
    have HBE := Lib.hid (HB.out.trans (hbe.mono HB.out.size))
    have HZ := Lib.hid hz
    clear hz hroom e1 e2 hx0 hx1 hys hbe
    clear HR3
    go_wp2_with (go_at_call 120; refine HO.out.mono ?_; rintro e w4 ⟨v4, rfl, hr, hb⟩; rw [vbs_one, HZ.out] at hr; have HR4 := Lib.hid (Kd.R_lower hr HBE.out.size); have HB4 := Lib.hid (HBE.out.trans (hb.mono HBE.out.size)); clear hr hb)
    go_roundg (l.length - (i + 1))
    case measure => omega
    case rel => exact ⟨i + 1, by go_num, by omega, rfl, HR4, HB4⟩
  · obtain rfl : i = l.length := by omega
    rw [List.take_length] at hys
    have HYS := Lib.hid hys
    clear hys
    go_wp2
    go_ret
    exact ⟨_, rfl, by rw [HYS.out]; exact HR3.out, HB.out⟩
theorem rnum1_is (w : World) (n : Nat) (hn : n < 9223372036854775808) :
 Calls Try.prog 112 #[.slice none 0 0, .slice (some ⟨w.heap.size, 0, none⟩) 1 1] (w.alloc (.cells #[.int .i64 (n : Int)] 3)) fun e w' => ∃ v', e = .returned v' ∧ BR w' w.heap.size v' (vb n) ∧ Below w.heap.size w w' := by
 have hbe : Below w.heap.size w (w.alloc (.cells #[.int .i64 (n : Int)] 3)) := (Below.refl _ _).alloc (Nat.le_refl _) _
 have h := rnumsB_is (w := w.alloc (.cells #[.int .i64 (n : Int)] 3)) (v := .slice none 0 0) (b := []) (Kd.R_nil _ _ _ _ _) (some ⟨w.heap.size, 0, none⟩) 1 [(n : Int)] (C_box w .i64 (n : Int) 3) (fun i hi => by have : i = 0 := (by simpa using hi); subst this; exact ⟨by show (0 : Int) ≤ (n : Int); omega, by show (n : Int) < _; omega⟩) (by simp) (by simp)
 rw [vbs_one, List.nil_append] at h
 refine h.mono ?_
 rintro e w1 ⟨v, rfl, hr, hb⟩
 exact ⟨v, rfl, Kd.R_lower hr hbe.size, hbe.trans (hb.mono hbe.size)⟩
set_option maxHeartbeats 8000000 in
theorem rwrap_is (A0 : Option Addr) (c0 : Nat) (b : List Int) (w : World) (hr : Kd.C (Kd.int .u8) w A0 b.length b) (hB : areBytesN b = true) :
 Calls Try.prog 119 #[.slice A0 b.length c0] w fun e w' => ∃ v, e = .returned (.tuple #[v, .int .i64 (wrapF b).2]) ∧ BR w' w.heap.size v (wrapF b).1 ∧ Below w.heap.size w w' := by
 have hl63 : b.length ≤ 9223372036854775807 := hr.2.1
 have HR := Lib.hid hr
 have HB := Lib.hid hB
 clear hr hB
 unfold wrapF
 by_cases hbig : 65536 < b.length
 · rw [if_pos hbig]
   go_enter Try.func119, Try.ntmps119
   go_wp2
   go_ret2
   exact ⟨_, rfl, Kd.R_nil _ _ _ _ _, Below.refl _ _⟩
 rw [if_neg hbig]
 have h10 : (vb b.length).length ≤ 10 := vb_le_ten (by omega)
 have HN := Lib.hid (rnum1_is w b.length (by omega))
 obtain ⟨hs0, hs1⟩ := sumF_range b
 obtain ⟨s, hs⟩ : ∃ s, sumF b = s := ⟨_, rfl⟩
 rw [hs] at hs0 hs1
 have HS := Lib.hid hs
 clear hs
 go_enter Try.func119, Try.ntmps119
 go_upto_region 6 with (first
  | (go_at_call 112; refine HN.out.mono ?_; rintro e w1 ⟨v1, rfl, hr1, hb1⟩; obtain ⟨A1, k1, rfl, hk1, _⟩ := BR.len hr1; have HR1 := Lib.hid hr1; have HB1 := Lib.hid hb1; clear hr1 hb1 hk1)
  | (at_builtin; refine BR.append_ev (w := w1) HR1.out (Kd.C_below HR.out HB1.out) rfl (.tmp 13) (.tmp 14) rfl rfl rfl HB1.out.size (by omega) ?_; intro v2 w2 hr2 hb2 hat; obtain ⟨ys, hys⟩ : ∃ ys, vb b.length ++ b = ys := ⟨_, rfl⟩; rw [hys] at hr2; have hyl : ys.length ≤ 65546 := (by rw [← hys, List.length_append]; omega); have HYS := Lib.hid hys; clear hys; obtain ⟨A2, k2, rfl, hk2, _⟩ := BR.len hr2; have HR2 := Lib.hid hr2; have HB2 := Lib.hid (HB1.out.trans hb2); clear hr2 hb2 hat hk2)
  | (go_at_call 154; refine (rof_is A0 c0 b _ (Kd.C_below HR.out HB2.out) HB.out (by omega)).mono ?_; rintro e w3 ⟨rfl, hd⟩; rw [HS.out]; have hb := hd.below; have HR3 := Lib.hid (Kd.R_below HR2.out hb); have HB3 := Lib.hid (HB2.out.trans (hb.mono HB2.out.size)); clear hb hd))
 have hw4 : Below w3.heap.size w3 (w3.alloc (.cells #[.int .u8 (s / 16777216), .int .u8 (s / 65536 % 256), .int .u8 (s / 256 % 256), .int .u8 (s % 256)] 5)) := (Below.refl _ _).alloc (Nat.le_refl _) _
 have hC4 : Kd.C (Kd.int .u8) (w3.alloc (.cells #[.int .u8 (s / 16777216), .int .u8 (s / 65536 % 256), .int .u8 (s / 256 % 256), .int .u8 (s % 256)] 5)) (some ⟨w3.heap.size, 0, none⟩) 4 (be s) := C_block (ws := be s) (World.alloc_heap_new w3 _) (by simp [be])
 have HC4 := Lib.hid hC4
 have HR4 := Lib.hid (Kd.R_below HR3.out hw4)
 have HB4 := Lib.hid (HB3.out.trans (hw4.mono HB3.out.size))
 clear hC4 hw4
 go_wp2_with (at_builtin; go_must (refine BR.append_ev (w := w3.alloc (.cells #[.int .u8 (s / 16777216), .int .u8 (s / 65536 % 256), .int .u8 (s / 256 % 256), .int .u8 (s % 256)] 5)) HR4.out HC4.out rfl (.tmp 18) (.tmp 30) rfl rfl rfl HB4.out.size (by have : (be s).length = 4 := rfl; omega) ?_; intro v5 w5 hr5 hb5 hat; have HR5 := Lib.hid hr5; have HB5 := Lib.hid (HB4.out.trans hb5); clear hr5 hb5 hat))
 go_ret2
 refine ⟨_, rfl, ?_, HB5.out⟩
 show BR _ w.heap.size _ (vb b.length ++ b ++ be (sumF b))
 rw [HYS.out, HS.out]
 exact HR5.out
end Go.Proofs.Ytmbnjgnmblgjoaa.Man
end
section
namespace Go.Proofs.Ytmbnjgnmblgjoaa.Man
open Go.RowKit Go.Proofs.YtmbnjgnmblgjoaaW.PrintWords Go.Proofs.YtmbnjgnmblgjoaaW.PrintLast Go.Proofs.YtmbnjgnmblgjoaaW.PrintMore
set_option linter.unusedVariables false
set_option linter.unusedSimpArgs false
set_option maxRecDepth 100000
theorem or_at (k : Nat) (a c : Int) (hk : k ≤ 32) (h0 : 0 ≤ a) (h1 : a < 4294967296) (h2 : a % (2 : Int) ^ k = 0) (h3 : 0 ≤ c) (h4 : c < (2 : Int) ^ k) : Go.bits .or .u32 a c = a + c :=
 bits_join .u32 32 (by decide) (fun n q r => by have r' : n < 4294967296 := r; rw [IntKind.wrap_u32]; omega) k a c h0 h2 h1 h3 h4 (by have h5 : (2 : Nat) ^ k ≤ 2 ^ 32 := Nat.pow_le_pow_right (by decide) hk; have h6 : (2 : Int) ^ k ≤ 2 ^ 32 := (by exact_mod_cast h5); exact Int.lt_of_lt_of_le h4 h6)
set_option maxHeartbeats 8000000 in
theorem ropen_is (A0 : Option Addr) (c0 : Nat) (b : List Int) (p : Nat) (w : World) (hr : Kd.C (Kd.int .u8) w A0 b.length b) (hc : b.length ≤ c0) (hB : areBytesN b = true) (hl : b.length ≤ 140737488351232) (hp : p ≤ b.length) :
 Calls Try.prog 140 #[.slice A0 b.length c0, .int .i64 (p : Int)] w fun e w' => ∃ v, e = .returned (.tuple #[v, .int .i64 (openF b p).2.1, .int .i64 (openF b p).2.2]) ∧ BR w' w.heap.size v (openF b p).1 ∧ Below w.heap.size w w' := by
 have hg := getF_range b p hB
 have HR := Lib.hid hr
 have HB := Lib.hid hB
 have HG := Lib.hid (rget_is A0 c0 b p w hr hc hB hl)
 clear hr hB
 obtain ⟨R, hR⟩ : ∃ R, openF b p = R := ⟨_, rfl⟩
 rw [hR]
 unfold openF at hR
 obtain ⟨g, hgd⟩ : ∃ g, getF b p = g := ⟨_, rfl⟩
 rw [hgd] at hg HG hR
 have HGD := Lib.hid hgd
 clear hgd
 obtain ⟨n, nx, er⟩ := g
 simp only at hg HG hR
 have HBD : ∀ m, Below w.heap.size w (w.drewN m) := fun m => pw_below_drewN (Below.refl _ _) m
 by_cases h0 : er ≠ 0
 · rw [if_pos h0] at hR
   subst hR
   clear hg
   go_enter Try.func140, Try.ntmps140
   go_wp2_with (go_at_call 156; refine HG.out.mono ?_; rintro e w1 ⟨rfl, m, rfl⟩)
   go_ret3
   exact ⟨_, rfl, Kd.R_nil _ _ _ _ _, HBD _⟩
 obtain rfl : er = 0 := by omega
 obtain ⟨ha, h1, h2, h3⟩ := hg rfl
 clear h0 hg
 rw [if_neg (by simp)] at hR
 obtain ⟨N, rfl⟩ : ∃ N : Nat, n = (N : Int) := ⟨n.toNat, by omega⟩
 obtain ⟨X, rfl⟩ : ∃ X : Nat, nx = (X : Int) := ⟨nx.toNat, by omega⟩
 by_cases h4 : 65536 < (N : Int)
 · rw [if_pos h4] at hR
   subst hR
   go_enter Try.func140, Try.ntmps140
   go_wp2_with (go_at_call 156; refine HG.out.mono ?_; rintro e w1 ⟨rfl, m, rfl⟩)
   go_ret3
   exact ⟨_, rfl, Kd.R_nil _ _ _ _ _, HBD _⟩
 rw [if_neg h4] at hR
 have h4' : N ≤ 65536 := by omega
 have hW : IntKind.i64.wrap (N : Int) = (N : Int) := by rw [IntKind.wrap_i64]; omega
 by_cases h5 : (b.length : Int) - X < N + 4
 · rw [if_pos h5] at hR
   subst hR
   have h6 : (b.length : Int) - 4 < (X : Int) + N := by omega
   clear h5
   go_enter Try.func140, Try.ntmps140
   go_wp2_with (go_at_call 156; refine HG.out.mono ?_; rintro e w1 ⟨rfl, m, rfl⟩)
   go_ret3
   exact ⟨_, rfl, Kd.R_nil _ _ _ _ _, HBD _⟩
 rw [if_neg h5] at hR
 have h6 : ¬ (b.length : Int) - 4 < (X : Int) + N := by omega
 have h6' : X + N + 4 ≤ b.length := by omega
 obtain ⟨i0, hi0, hsz⟩ : ∃ i0, Try.prog.info? 5 = some i0 ∧ i0.size = 1 := by obtain ⟨i0, h, _, h2, _⟩ := info_parts info_u8; exact ⟨i0, h, h2⟩
 obtain ⟨Ax, hcx, hAx, hkx⟩ := print_mid_of (P := Try.prog) (Value.int .u8) 0 27 5 .i64 .i64 Try.underlying27 hi0 hsz A0 c0 b (X : Int) ((X : Int) + N) (by omega) (by omega) (by omega) hc
 have hCx := Kd.C_of_reads (h1 := fun _ => rfl) (hAx _ (Kd.reads_of_C HR.out))
 clear hAx hi0 hsz hkx
 have hBx : areBytesN ((b.take ((X : Int) + N).toNat).drop (X : Int).toNat) = true := areBytesN_drop (areBytesN_take HB.out _) _
 have hlx : ((b.take ((X : Int) + N).toNat).drop (X : Int).toNat).length ≤ 65536 := by rw [List.length_drop, List.length_take]; omega
 obtain ⟨E, hE⟩ : ∃ E, X + N = E := ⟨_, rfl⟩
 have hEN : (X : Int) + (N : Int) = (E : Int) := by omega
 obtain ⟨ad, ea, z0⟩ := Kd.at_int HR.out (E : Int) (by omega) (by omega)
 obtain ⟨ad1, ea1, z1⟩ := Kd.at_int HR.out ((E + 1 : Nat) : Int) (by omega) (by omega)
 obtain ⟨ad2, ea2, z2⟩ := Kd.at_int HR.out ((E + 2 : Nat) : Int) (by omega) (by omega)
 obtain ⟨ad3, ea3, z3⟩ := Kd.at_int HR.out ((E + 3 : Nat) : Int) (by omega) (by omega)
 subst ea
 cases ea1; cases ea2; cases ea3
 rw [Int.toNat_natCast] at z0 z1 z2 z3
 have e0 := getN_get HB.out (k := E) (by omega)
 have e1 := getN_get HB.out (k := E + 1) (by omega)
 have e2 := getN_get HB.out (k := E + 2) (by omega)
 have e3 := getN_get HB.out (k := E + 3) (by omega)
 have hrd : ∀ k : Nat, rd b (k : Int) = b.getD k 0 := fun k => by unfold rd; rw [Int.toNat_natCast]
 rw [hrd] at z0 z1 z2 z3
 have hmid : mid b (E : Int) ((E : Int) + 4) = [b.getD E 0, b.getD (E + 1) 0, b.getD (E + 2) 0, b.getD (E + 3) 0] := by
  have e4 : ((E : Int) + 4).toNat = E + 4 := by omega
  unfold mid
  rw [e4, Int.toNat_natCast]
  apply List.ext_getElem
  · rw [List.length_drop, List.length_take]; simp only [List.length_cons, List.length_nil]; omega
  · intro k q1 q2
    rw [List.length_drop, List.length_take] at q1
    have hk : k < 4 := by omega
    rw [List.getElem_drop, List.getElem_take]
    rcases (show k = 0 ∨ k = 1 ∨ k = 2 ∨ k = 3 by omega) with rfl | rfl | rfl | rfl <;> (simp only [List.getElem_cons_zero, List.getElem_cons_succ]; rw [getD_lt (by omega)]; try rfl)
 generalize b.getD E 0 = y0 at z0 e0 hmid
 generalize b.getD (E + 1) 0 = y1 at z1 e1 hmid
 generalize b.getD (E + 2) 0 = y2 at z2 e2 hmid
 generalize b.getD (E + 3) 0 = y3 at z3 e3 hmid
 obtain ⟨p0, q0⟩ := e0
 obtain ⟨p1, q1⟩ := e1
 obtain ⟨p2, q2⟩ := e2
 obtain ⟨p3, q3⟩ := e3
 rw [hEN, hmid] at hR
 unfold mid at hR
 rw [hEN] at hcx hCx hBx hlx
 obtain ⟨x, hx⟩ : ∃ x, (b.take (E : Int).toNat).drop (X : Int).toNat = x := ⟨_, rfl⟩
 rw [hx] at hCx hcx hBx hlx hR
 have HRR := Lib.hid hR
 have HCX := Lib.hid hCx
 have HBX := Lib.hid hBx
 clear hR hx hCx hBx hrd hmid
 have hE' : E + 4 ≤ b.length := by omega
 have h6E : ¬ (b.length : Int) - 4 < (E : Int) := by omega
 go_enter Try.func140, Try.ntmps140
 go_upto_region 11 with (go_at_call 156; refine HG.out.mono ?_; rintro e w1 ⟨rfl, m, rfl⟩)
 have hbd := HBD m
 obtain ⟨wD, hwD⟩ : ∃ wD, w.drewN m = wD := ⟨_, rfl⟩
 rw [hwD] at hbd ⊢
 have z0 := pw_cell_below hbd z0
 have z1 : wD.cell? ⟨ad.block, ad.off + (E + 1), none⟩ = some (.int .u8 y1) := (by have h := pw_cell_below hbd z1; simpa [Addr.add] using h)
 have z2 : wD.cell? ⟨ad.block, ad.off + (E + 2), none⟩ = some (.int .u8 y2) := (by have h := pw_cell_below hbd z2; simpa [Addr.add] using h)
 have z3 : wD.cell? ⟨ad.block, ad.off + (E + 3), none⟩ = some (.int .u8 y3) := (by have h := pw_cell_below hbd z3; simpa [Addr.add] using h)
 have HBW := Lib.hid hbd
 clear hwD hbd HBD
 have i0 : (E : Int) < b.length := by omega
 have i1 : (E : Int) + 1 < b.length := by omega
 have i2 : (E : Int) + 2 < b.length := by omega
 have i3 : (E : Int) + 3 < b.length := by omega
 have hEb : (E : Int) ≤ 140737488351232 := by omega
 have j1 : (0 : Int) ≤ (E : Int) + 1 := by omega
 have j2 : (0 : Int) ≤ (E : Int) + 2 := by omega
 have j3 : (0 : Int) ≤ (E : Int) + 3 := by omega
 have x1 : IntKind.i64.wrap ((E : Int) + 1) = (E : Int) + 1 := by rw [IntKind.wrap_i64]; omega
 have x2 : IntKind.i64.wrap ((E : Int) + 2) = (E : Int) + 2 := by rw [IntKind.wrap_i64]; omega
 have x3 : IntKind.i64.wrap ((E : Int) + 3) = (E : Int) + 3 := by rw [IntKind.wrap_i64]; omega
 have t1 : ((E : Int) + 1).toNat = E + 1 := by omega
 have t2 : ((E : Int) + 2).toNat = E + 2 := by omega
 have t3 : ((E : Int) + 3).toNat = E + 3 := by omega
 have u0 : IntKind.u32.wrap y0 = y0 := by rw [IntKind.wrap_u32]; omega
 have u1 : IntKind.u32.wrap y1 = y1 := by rw [IntKind.wrap_u32]; omega
 have u2 : IntKind.u32.wrap y2 = y2 := by rw [IntKind.wrap_u32]; omega
 have u3 : IntKind.u32.wrap y3 = y3 := by rw [IntKind.wrap_u32]; omega
 have v0 : IntKind.u32.wrap (y0 * 16777216) = y0 * 16777216 := by rw [IntKind.wrap_u32]; omega
 have v1 : IntKind.u32.wrap (y1 * 65536) = y1 * 65536 := by rw [IntKind.wrap_u32]; omega
 have v2 : IntKind.u32.wrap (y2 * 256) = y2 * 256 := by rw [IntKind.wrap_u32]; omega
 have o1 := or_at 24 (y0 * 16777216) (y1 * 65536) (by decide) (by omega) (by omega) (by show y0 * 16777216 % 16777216 = 0; omega) (by omega) (by show y1 * 65536 < 16777216; omega)
 have o2 := or_at 16 (y0 * 16777216 + y1 * 65536) (y2 * 256) (by decide) (by omega) (by omega) (by show (y0 * 16777216 + y1 * 65536) % 65536 = 0; omega) (by omega) (by show y2 * 256 < 65536; omega)
 have o3 := or_at 8 (y0 * 16777216 + y1 * 65536 + y2 * 256) y3 (by decide) (by omega) (by omega) (by show (y0 * 16777216 + y1 * 65536 + y2 * 256) % 256 = 0; omega) p3 (by show y3 < 256; omega)
 go_quiet (fail)
 go_upto_region 12 with (fail)
 have hbq : Below wD.heap.size wD (wD.drewN nq) := pw_below_drewN (Below.refl _ _) nq
 have HBE := Lib.hid (HBW.out.trans (hbq.mono HBW.out.size))
 obtain ⟨wE, hwE⟩ : ∃ wE, wD.drewN nq = wE := ⟨_, rfl⟩
 rw [hwE] at HBE ⊢
 clear hwE hbq z0 z1 z2 z3 x1 x2 x3 t1 t2 t3 u0 u1 u2 u3 v0 v1 v2 o1 o2 o3 i0 i1 i2 i3 j1 j2 j3
 obtain ⟨sy, hsy⟩ : ∃ sy, y0 * 16777216 + y1 * 65536 + y2 * 256 + y3 = sy := ⟨_, rfl⟩
 obtain ⟨sx, hsx⟩ : ∃ sx, sumF x = sx := ⟨_, rfl⟩
 have hd : R = if sy = sx then (x, (E : Int) + 4, 0) else ([], (p : Int), 10) := by
  have e : be4 [y0, y1, y2, y3] = sy := by rw [← hsy]; show ((y0 * 256 + y1) * 256 + y2) * 256 + y3 = _; omega
  have hR := HRR.out
  rw [e, hsx] at hR
  rw [← hR]
  by_cases hh : sy = sx
  · rw [if_pos hh, if_neg (by simpa using hh)]
  · rw [if_neg hh, if_pos hh]
 rw [hsy]
 have HSX := Lib.hid hsx
 have HD := Lib.hid hd
 clear hsy hsx hd HRR p0 p1 p2 p3 q0 q1 q2 q3
 have hb0 : Below wE.heap.size wE (wE.alloc (.cells #[] 5)) := (Below.refl _ _).alloc (Nat.le_refl _) _
 have HB0 := Lib.hid (HBE.out.trans (hb0.mono HBE.out.size))
 have HR0 := Lib.hid (br_empty wE w.heap.size HBE.out.size)
 have HCX0 := Lib.hid (Kd.C_below HCX.out HB0.out)
 clear hb0 HBE HBW
 have x4 : IntKind.i64.wrap ((E : Int) + 4) = (E : Int) + 4 := by rw [IntKind.wrap_i64]; omega
 go_upto_region 13 with (at_builtin; refine BR.append_ev (w := wE.alloc (.cells #[] 5)) HR0.out HCX0.out rfl (.tmp 75) (.tmp 79) rfl rfl rfl HB0.out.size (by simp only [List.length_nil]; omega) ?_; intro v2 w2 hr2 hb2 hat; rw [List.nil_append] at hr2; obtain ⟨A2, k2, rfl, hk2, hC2⟩ := BR.len hr2; have HC2 := Lib.hid hC2; have HK2 := Lib.hid hk2; have HR2 := Lib.hid hr2; have HB2 := Lib.hid (HB0.out.trans hb2); clear hr2 hb2 hat hk2 hC2)
 clear HR0 HCX0 HB0 HCX
 have HO := Lib.hid (rof_is A2 k2 x w2 HC2.out HBX.out (by omega))
 rw [HSX.out] at HO
 by_cases hne : sy = sx
 · subst hne
   have hR := HD.out
   rw [if_pos rfl] at hR
   subst hR
   go_wp2_with (go_at_call 154; refine HO.out.mono ?_; rintro e w3 ⟨rfl, hd⟩; have HB3 := Lib.hid hd.below; clear hd)
   go_ret3
   exact ⟨_, rfl, Kd.R_below HR2.out HB3.out, HB2.out.trans (HB3.out.mono HB2.out.size)⟩
 · have hR := HD.out
   rw [if_neg hne] at hR
   subst hR
   go_wp2_with (go_at_call 154; refine HO.out.mono ?_; rintro e w3 ⟨rfl, hd⟩; have HB3 := Lib.hid hd.below; clear hd)
   go_ret3
   exact ⟨_, rfl, Kd.R_nil _ _ _ _ _, HB2.out.trans (HB3.out.mono HB2.out.size)⟩
end Go.Proofs.Ytmbnjgnmblgjoaa.Man
end
section
namespace Go.Proofs.Ytmbnjgnmblgjoaa.Man
open Go.RowKit Go.Proofs.YtmbnjgnmblgjoaaW.PrintWords Go.Proofs.YtmbnjgnmblgjoaaW.PrintLast
set_option linter.unusedVariables false
set_option linter.unusedSimpArgs false
def FW (ro : Option Nat) : Fence := { Fence.wide with round := ro }
def noDefer (ops : Array Oper) : Bool := ops.all fun o => match o.op with | .defer _ => false | _ => true
def SeqAllX {α : Type} (F : Fence) (n : Nat) (P : Program) (g : Nat) (lb : Array Value) (encs : α → Array Value) (Mv : World → World → Prop) (Kp : World → World → Prop) (S : List α → Prop) (N : List α → α → World → Prop) (w : World) : Prop :=
 ∀ (l : Nat) (J : List α → World → Prop) (W : World), Below w.heap.size w W → (∀ s A B, J s A → Mv A B → J s B) →
  (∀ pre x W1, J pre W1 → N pre x W1 → YieldAt F (n - 1) P l (encs x) W1 fun e W' => e = .returned (.bool true) ∧ J (pre ++ [x]) W' ∧ Kp W1 W') →
  J [] W →
  CallsIn F n P g (#[.func (.yield l) #[] #[]] ++ lb) W fun e W' => (∃ v, e = .returned v) ∧ ∃ xs, S xs ∧ J xs W'
end Go.Proofs.Ytmbnjgnmblgjoaa.Man
end
section
namespace Go.Proofs.Ytmbnjgnmblgjoaa.Man
open Go.RowKit Go.Proofs.YtmbnjgnmblgjoaaW.PrintWords Go.Proofs.YtmbnjgnmblgjoaaW.PrintLast Go.Proofs.YtmbnjgnmblgjoaaW.PrintMore
set_option linter.unusedVariables false
set_option linter.unusedSimpArgs false
def entF (x : K.S26) : List Int := frameF (entryB x)
def Fine (x : K.S26) : Prop := entryE x = 0 ∧ (entryB x).length ≤ 65536
def flatE (xs : List K.S26) : List Int := xs.flatMap entF
def endsE (p : Nat) : List K.S26 → List Int
 | [] => []
 | x :: xs => ((p + (entF x).length : Nat) : Int) :: endsE (p + (entF x).length) xs
def Stop (r : List Int) : Prop := (openF r 0).2.2 ≠ 0 ∨ (getEntryF (openF r 0).1).2 ≠ 0
structure LogOf (b : List Int) (xs : List K.S26) (r : List Int) : Prop where
 eq : b = flatE xs ++ r
 fine : ∀ x ∈ xs, Fine x
 stop : Stop r
theorem bytes_take {l : List Int} (h : areBytesN l = true) (n : Nat) : areBytesN (l.take n) = true := by
 unfold areBytesN at *
 rw [List.all_eq_true] at *
 exact fun x hx => h x (List.mem_of_mem_take hx)
theorem bytes_drop {l : List Int} (h : areBytesN l = true) (n : Nat) : areBytesN (l.drop n) = true := by
 unfold areBytesN at *
 rw [List.all_eq_true] at *
 exact fun x hx => h x (List.mem_of_mem_drop hx)
theorem LogOf.len {b : List Int} {xs : List K.S26} {r : List Int} (h : LogOf b xs r) : (flatE xs).length ≤ b.length := by rw [h.eq, List.length_append]; omega
theorem LogOf.take {b : List Int} {xs : List K.S26} {r : List Int} (h : LogOf b xs r) : b.take (flatE xs).length = flatE xs := by rw [h.eq, List.take_left]
end Go.Proofs.Ytmbnjgnmblgjoaa.Man
end
section
namespace Go.Proofs.Ytmbnjgnmblgjoaa.Man
open Go.RowKit Go.Shelf Go.Proofs.YtmbnjgnmblgjoaaW.PrintWords Go.Proofs.YtmbnjgnmblgjoaaW.PrintLast Go.Proofs.YtmbnjgnmblgjoaaW.PrintMore
set_option linter.unusedVariables false
set_option linter.unusedSimpArgs false
set_option maxRecDepth 100000
theorem wide_fn_ (k : Nat) : Fence.wide.fn k = True := rfl
attribute [local go_sem] wide_fn_
structure Fed where
 nx : Nat
 x : K.S26
 A : Option Addr
 c : Nat
abbrev Fed.encs (f : Fed) : Array Value := #[.int .i64 f.nx, .agg #[.int .i64 f.x.f0, .int .i64 f.x.f1, .int .i64 f.x.f2.f0, .int .i64 f.x.f2.f1, .int .i64 f.x.f2.f2, .int .i64 f.x.f2.f3, .int .i64 f.x.f2.f4, .int .i64 f.x.f2.f5, .slice f.A f.x.f2.f6.length f.c, .int .i64 f.x.f2.f7]]
def fedX (l : List Fed) : List K.S26 := l.map Fed.x
def FedN (base : Nat) (xs : List K.S26) (pre : List Fed) (f : Fed) (W : World) : Prop :=
 fedX pre ++ [f.x] <+: xs ∧ f.nx = (flatE (fedX pre ++ [f.x])).length ∧ f.x.f2.f6.length ≤ f.c ∧ TR W base (.slice f.A f.x.f2.f6.length f.c) f.x.f2.f6
def FedK (Bb : Nat) (A : Option Addr) (X Y : World) : Prop := Y.heap[Bb]? = X.heap[Bb]? ∧ ∀ ad, A = some ad → Y.heap[ad.block]? = X.heap[ad.block]?
end Go.Proofs.Ytmbnjgnmblgjoaa.Man
end
section
namespace Go.Proofs.Ytmbnjgnmblgjoaa.Man
open Go.RowKit Go.Shelf Go.Proofs.YtmbnjgnmblgjoaaW.PrintWords Go.Proofs.YtmbnjgnmblgjoaaW.PrintLast Go.Proofs.YtmbnjgnmblgjoaaW.PrintMore
set_option linter.unusedVariables false
set_option linter.unusedSimpArgs false
set_option maxRecDepth 100000
def JAt (w : World) (J D : Nat) (v : Value) : Prop := w.heap[J]? = some (.cells #[.pointer (some ⟨D, 0, none⟩), v] 184 (0, 0))
theorem JAt.c0 {w : World} {J D : Nat} {v : Value} (k : JAt w J D v) : w.cell? ⟨J, 0, none⟩ = some (.pointer (some ⟨D, 0, none⟩)) := by simp [World.cell?, show w.heap[J]? = _ from k]
theorem JAt.c1 {w : World} {J D : Nat} {v : Value} (k : JAt w J D v) : w.cell? ⟨J, 1, none⟩ = some v := by simp [World.cell?, show w.heap[J]? = _ from k]
theorem JAt.f {w : World} {J D : Nat} {v : Value} (k : JAt w J D v) (j : Nat) : w.frozen? ⟨J, j, none⟩ = false := by simp [World.frozen?, show w.heap[J]? = _ from k]
theorem JAt.lt {w : World} {J D : Nat} {v : Value} (k : JAt w J D v) : J < w.heap.size := (Array.getElem?_eq_some_iff.1 k).1
theorem JAt.ne {w w1 : World} {J D : Nat} {v : Value} (k : JAt w J D v) (h : w1.heap[J]? = w.heap[J]?) : JAt w1 J D v := h.trans k
abbrev IR (w : World) (base : Nat) (v : Value) (xs : List Int) : Prop := Kd.R (Kd.int .i64) 3 w base (fun _ => True) v xs
theorem IR.len {w : World} {base : Nat} {v : Value} {xs : List Int} (h : IR w base v xs) : ∃ A c, v = .slice A xs.length c ∧ xs.length ≤ c ∧ Kd.C (Kd.int .i64) w A xs.length xs := Kd.R_reads h
section
variable {α : Type} {d : Kd α} {e base : Nat} {v : Value} {xs : List α} {W Y : World}
theorem R_nc {row : Option Nat} (h : d.R e W base (fun _ => True) v xs) (hg : W.grownBy Y row) (hr : ∀ r, row = some r → ∃ o : Obj, W.heap[r]? = some o ∧ o.isCells = false) : d.R e Y base (fun _ => True) v xs :=
 Kd.R_mono (Kd.R_grown (Kd.R_bound h) hg (fun k hk e => by
  obtain ⟨o, ho, hc⟩ := hr k e.symm
  obtain ⟨_, _, _, q, _, cells, hq⟩ := hk
  rw [ho] at hq
  cases hq
  cases hc)) (fun _ _ => trivial)
theorem R_typ (h : d.R e W base (fun _ => True) v xs) (r : Nat) (hr : v.ownBlock = some r) : ∃ cs, W.heap[r]? = some (.cells cs e (0, 0)) := own_typed (Kd.R_own h).choose_spec r hr
theorem R_ge (h : d.R e W base (fun _ => True) v xs) (r : Nat) (hr : v.ownBlock = some r) : base ≤ r := own_base (Kd.R_own h).choose_spec r hr
end
theorem DStep.then_ {w w1 w2 : World} {B : Nat} {v v1 v2 : Value} (h : DStep w w1 B v v1) (k : DStep w1 w2 B v1 v2) : DStep w w2 B v v2 := by
 refine ⟨k.os.trans h.os, k.tape.trans h.tape, k.output.trans h.output, Nat.le_trans h.size k.size, fun j hj hB hv => (k.block j (by have := h.size; omega) hB ?_).trans (h.block j hj hB hv), ?_⟩
 · rcases h.row with e | ⟨b, e, hb⟩
   · rw [e]; exact hv
   · rw [e]; intro q; cases q; omega
 · rcases k.row with e | ⟨b, e, hb⟩
   · rw [e]; exact h.row
   · exact .inr ⟨b, e, by have := h.size; omega⟩
structure JK (lo base : Nat) (W W' : World) : Prop where
 size : W.heap.size ≤ W'.heap.size
 keep : ∀ (k : Nat) (o : Obj), W.heap[k]? = some o → o.isCells = false → W'.heap[k]? = some o
 mid : ∀ k, lo ≤ k → k < base → k < W.heap.size → W'.heap[k]? = W.heap[k]?
theorem JK.trans {lo base : Nat} {A B C : World} (h : JK lo base A B) (k : JK lo base B C) : JK lo base A C :=
 ⟨Nat.le_trans h.size k.size, fun i o hi hc => k.keep i o (h.keep i o hi hc) hc, fun i h1 h2 h3 => (k.mid i h1 h2 (Nat.lt_of_lt_of_le h3 h.size)).trans (h.mid i h1 h2 h3)⟩
theorem JK.of_below {lo base : Nat} {W W' : World} (h : Below W.heap.size W W') : JK lo base W W' :=
 ⟨h.size, fun k o hk _ => (h.block k (Array.getElem?_eq_some_iff.1 hk).1).trans hk, fun k _ _ hk => h.block k hk⟩
structure JoS (w1 W : World) (D J base : Nat) (vE vL : Value) (at_ : Int) (es : List Int) (xs : List K.S26) : Prop where
 jr : JAt W J D vE
 jv : Boxed W (J + 1) 106 (.pointer (some ⟨J, 0, none⟩))
 lv : Boxed W (J + 2) 69 vL
 av : Boxed W (J + 3) 3 (.int .i64 at_)
 ends : IR W base vE es
 ents : ER W base vL xs
 bel : Below w1.heap.size w1 W
 sz : base ≤ W.heap.size
 j0 : w1.heap.size ≤ J
 j1 : J + 4 ≤ base
section
variable {w1 W W' : World} {D J base : Nat} {vE vL v' : Value} {at_ : Int} {es es' : List Int} {xs xs' : List K.S26}
theorem JoS.nc (h : JoS w1 W D J base vE vL at_ es xs) {row : Option Nat} (hg : W.grownBy W' row) (hr : ∀ r, row = some r → base ≤ r ∧ ∃ o : Obj, W.heap[r]? = some o ∧ o.isCells = false) : JoS w1 W' D J base vE vL at_ es xs := by
 have hne : ∀ k, k < base → some k ≠ row := fun k hk e => by have := (hr k e.symm).1; omega
 have hj := h.j1
 exact ⟨(hg.block _ h.jr.lt (hne _ (by omega))).trans h.jr, h.jv.kept hg (hne _ (by omega)), h.lv.kept hg (hne _ (by omega)), h.av.kept hg (hne _ (by omega)), R_nc h.ends hg (fun r e => (hr r e).2), R_nc h.ents hg (fun r e => (hr r e).2),
  h.bel.grown hg h.bel.size (fun r e => by have := (hr r e).1; have := h.j0; omega), Nat.le_trans h.sz hg.size, h.j0, h.j1⟩
theorem JoS.below (h : JoS w1 W D J base vE vL at_ es xs) (hb : Below W.heap.size W W') : JoS w1 W' D J base vE vL at_ es xs :=
 ⟨(hb.block _ h.jr.lt).trans h.jr, (hb.block _ h.jv.lt).trans h.jv, (hb.block _ h.lv.lt).trans h.lv, (hb.block _ h.av.lt).trans h.av, Kd.R_below h.ends hb, Kd.R_below h.ents hb, h.bel.trans (hb.mono h.bel.size), Nat.le_trans h.sz hb.size, h.j0, h.j1⟩
end
end Go.Proofs.Ytmbnjgnmblgjoaa.Man
end
section
namespace Go.Proofs.Ytmbnjgnmblgjoaa.Open
open Go.RowKit Go.ChangeShapes Go.WideShapes Go.Proofs.YtmbnjgnmblgjoaaW.PrintWords
set_option linter.unusedVariables false
structure OP {α : Type} (P : Program) (t : TypeId) (K : Kd α) (bk : α → Nat) : Prop where
 out : Opens P t K (fun _ => True) bk
structure OF {α : Type} (P : Program) (o : Nat) (fs : List Field) (K : Kd α) (bk : α → Nat) : Prop where
 out : OpensF P o fs K (fun _ => True) bk
theorem OP.of {α : Type} {P : Program} {t : TypeId} {K : Kd α} {wf : α → Prop} {bk bk' : α → Nat} (h : Opens P t K wf bk) (hb : ∀ x, bk' x ≤ bk x) : OP P t K bk' := ⟨by
 intro H enc w fuel cs d ps hd hwt
 obtain ⟨x, k1, k2, k3⟩ := h enc w fuel cs d ps hd hwt
 exact ⟨x, k1, trivial, Nat.le_trans (hb x) k3⟩⟩
theorem OF.of {α : Type} {P : Program} {o : Nat} {fs : List Field} {K : Kd α} {wf : α → Prop} {bk bk' : α → Nat} (h : OpensF P o fs K wf bk) (hb : ∀ x, bk' x ≤ bk x) : OF P o fs K bk' := ⟨by
 intro H enc w n cs ys hl hy hwt
 obtain ⟨x, k1, k2, k3⟩ := h enc w n cs ys hl hy hwt
 exact ⟨x, k1, trivial, Nat.le_trans (hb x) k3⟩⟩
theorem OP.struct {α β : Type} {P : Program} {t : TypeId} {fs : Array Field} {l : List Field} {K : Kd α} {bk : α → Nat} (f : β → α) (g : α → β) (hfg : ∀ a, f (g a) = a) (ht : P.underlying t = some (.struct fs)) (hl : fs.toList = l) (hc : P.cellsOf t = K.sz) (h : OF P 0 l K bk) : OP P t (Kd.iso K f) (fun x => bk (f x) + 1) :=
 .of (opens_iso f g hfg (opens_struct ht hl hc h.out)) (fun _ => Nat.le_refl _)
theorem OP.slice {α : Type} {P : Program} {t e : TypeId} {K : Kd α} {bk : α → Nat} (ht : P.underlying t = some (.slice e)) (hc : P.cellsOf e = K.sz) (h : OP P e K bk) : OP P t (Kd.slice e K) (fun xs => sum1 bk xs + 1) :=
 .of (opens_slice ht hc (B := P.bytesOf e) rfl h.out e) (fun _ => Nat.le_refl _)
def kMsg : Kd Man.MsgL := Kd.iso (Kd.pair (Kd.int .i64) (Kd.pair (Kd.int .i64) (Kd.pair (Kd.int .i64) (Kd.slice 26 K.k26)))) (fun m : Man.MsgL => (m.k, m.who, m.ver, m.l))
end Go.Proofs.Ytmbnjgnmblgjoaa.Open
end
section
namespace Go.Proofs.Ytmbnjgnmblgjoaa.Man
open Go.RowKit Go.Proofs.YtmbnjgnmblgjoaaW.PrintWords Go.Proofs.YtmbnjgnmblgjoaaW.PrintLast Go.Proofs.YtmbnjgnmblgjoaaW.PrintMore
set_option linter.unusedVariables false
set_option linter.unusedSimpArgs false
set_option maxRecDepth 100000
theorem EntAt.below {w W : World} {P c : Nat} {x : K.S26} {A : Option Addr} (h : EntAt w P x A c) (hb : Below w.heap.size w W) : EntAt W P x A c := (hb.block _ h.lt).trans h
theorem MsgAt.below {w W : World} {P n c : Nat} {k who ver : Int} {A : Option Addr} (h : MsgAt w P k who ver A n c) (hb : Below w.heap.size w W) : MsgAt W P k who ver A n c := (hb.block _ h.lt).trans h
theorem EntAt.ne {w W : World} {P c : Nat} {x : K.S26} {A : Option Addr} (h : EntAt w P x A c) (e : W.heap[P]? = w.heap[P]?) : EntAt W P x A c := e.trans h
theorem MsgAt.ne {w W : World} {P n c : Nat} {k who ver : Int} {A : Option Addr} (h : MsgAt w P k who ver A n c) (e : W.heap[P]? = w.heap[P]?) : MsgAt W P k who ver A n c := e.trans h
end Go.Proofs.Ytmbnjgnmblgjoaa.Man
end
section
namespace Go.Proofs.Ytmbnjgnmblgjoaa.Man
open Go.RowKit Go.Shelf Go.Proofs.YtmbnjgnmblgjoaaW.PrintWords Go.Proofs.YtmbnjgnmblgjoaaW.PrintLast Go.Proofs.YtmbnjgnmblgjoaaW.PrintMore
set_option linter.unusedVariables false
set_option linter.unusedSimpArgs false
set_option maxRecDepth 100000
attribute [local go_sem] wide_fn_ Oper.semAt_some
def JM (lo base : Nat) (X Y : World) : Prop := X.heap.size ≤ Y.heap.size ∧ ∀ k, lo ≤ k → k < base → k < X.heap.size → Y.heap[k]? = X.heap[k]?
theorem JM.trans {lo base : Nat} {A B C : World} (h : JM lo base A B) (k : JM lo base B C) : JM lo base A C := ⟨Nat.le_trans h.1 k.1, fun i h1 h2 h3 => (k.2 i h1 h2 (Nat.lt_of_lt_of_le h3 h.1)).trans (h.2 i h1 h2 h3)⟩
def jopR10.T : Bool × List (List Nat × List Nat) := (true, [([], []), ([], []), ([1], [1]), ([2], [2]), ([3], [3]), ([], []), ([5], [5]), ([4, 6], [4, 6]), ([0, 0, 1, 2, 3, 4, 5, 6, 7], [0]), ([8, 0, 1, 2, 3, 4, 5, 6, 7], [8]), ([9, 7, 7, 0, 1, 2, 3, 4, 5, 6, 7], [7, 9])])
def jopR10.B : List Nat := [0, 0, 2, 6, 14, 0, 32, 126, 255, 511, 1023]
end Go.Proofs.Ytmbnjgnmblgjoaa.Man
end
section
namespace Go.Proofs.Ytmbnjgnmblgjoaa.Man
open Go.RowKit Go.Shelf Go.Proofs.YtmbnjgnmblgjoaaW.PrintWords Go.Proofs.YtmbnjgnmblgjoaaW.PrintLast Go.Proofs.YtmbnjgnmblgjoaaW.PrintMore
set_option linter.unusedVariables false
set_option linter.unusedSimpArgs false
set_option maxRecDepth 100000
def frameErr (x : K.S26) : Int := if entryE x = 0 then (wrapF (entryB x)).2 else entryE x
structure JS (w : World) (base J D : Nat) (vE v : Value) (es b : List Int) (s m : Int) : Prop where
 jat : JAt w J D vE
 row : ∃ A c, vE = .slice A es.length c ∧ es.length ≤ c ∧ Kd.C (Kd.int .i64) w A es.length es
 typ : ∀ k, vE.ownBlock = some k → base ≤ k ∧ ∃ cs, w.heap[k]? = some (.cells cs 3 (0, 0))
 disk : DiskS w base D v b s m
 jge : base ≤ J
structure JStep (w w' : World) (J D : Nat) (v v' vE vE' : Value) : Prop where
 os : w'.os = w.os
 tape : w'.tape = w.tape
 output : w'.output = w.output
 size : w.heap.size ≤ w'.heap.size
 block : ∀ k, k < w.heap.size → k ≠ J → k ≠ D → some k ≠ v.ownBlock → w'.heap[k]? = w.heap[k]?
 row : v'.ownBlock = v.ownBlock ∨ ∃ b, v'.ownBlock = some b ∧ w.heap.size ≤ b
 ends : vE'.ownBlock = vE.ownBlock ∨ vE'.ownBlock = none ∨ ∃ b, vE'.ownBlock = some b ∧ w.heap.size ≤ b
section
variable {w w1 w2 : World} {base J D J' D' : Nat} {vE v vE' v' uE u : Value} {es es' b b' : List Int} {s m s' m' : Int}
theorem JS.lt (h : JS w base J D vE v es b s m) : J < w.heap.size := h.jat.lt
theorem C_typ {w w1 : World} {A : Option Addr} {n c : Nat} {xs : List Int} (h : Kd.C (Kd.int .i64) w A n xs) (hm : ∀ k, (Value.slice A n c).ownBlock = some k → w1.heap[k]? = w.heap[k]?) : Kd.C (Kd.int .i64) w1 A n xs :=
 C_moveK h (fun ad e => hm _ (by rw [e]; rfl))
theorem JS.move (h : JS w base J D vE v es b s m) (hJ : w1.heap[J]? = w.heap[J]?) (hE : ∀ k, vE.ownBlock = some k → w1.heap[k]? = w.heap[k]?) (hd : DiskS w1 base D v' b' s' m') : JS w1 base J D vE v' es b' s' m' := by
 obtain ⟨A, c, rfl, hc, hC⟩ := h.row
 exact ⟨h.jat.ne hJ, ⟨A, c, rfl, hc, C_typ hC hE⟩, fun k hk => ⟨(h.typ k hk).1, by rw [hE k hk]; exact (h.typ k hk).2⟩, hd, h.jge⟩
theorem JS.elt (h : JS w base J D vE v es b s m) (k : Nat) (hk : vE.ownBlock = some k) : k < w.heap.size := by
 obtain ⟨_, cs, hc⟩ := h.typ k hk
 exact (Array.getElem?_eq_some_iff.1 hc).1
theorem JS.below {n : Nat} (h : JS w base J D vE v es b s m) (hb : Below n w w1) (hn : w.heap.size ≤ n) : JS w1 base J D vE v es b s m :=
 h.move (hb.block _ (by have := h.lt; omega)) (fun k hk => hb.block _ (by have := h.elt k hk; omega)) (h.disk.below hb hn)
theorem JStep.of_below (J D : Nat) (v vE : Value) (h : Below w.heap.size w w1) : JStep w w1 J D v v vE vE := ⟨h.os, h.tape, h.output, h.size, fun k hk _ _ _ => h.block k hk, .inl rfl, .inl rfl⟩
theorem JStep.trans {v1 v2 e0 e1 e2 : Value} (h : JStep w w1 J D v v1 e0 e1) (k : JStep w1 w2 J D v1 v2 e1 e2) : JStep w w2 J D v v2 e0 e2 := by
 refine ⟨k.os.trans h.os, k.tape.trans h.tape, k.output.trans h.output, Nat.le_trans h.size k.size, fun j hj hJ hD hv => (k.block j (by have := h.size; omega) hJ hD ?_).trans (h.block j hj hJ hD hv), ?_, ?_⟩
 · rcases h.row with e | ⟨b, e, hb⟩
   · rw [e]; exact hv
   · rw [e]; intro q; cases q; omega
 · rcases k.row with e | ⟨b, e, hb⟩
   · rw [e]; exact h.row
   · exact .inr ⟨b, e, by have := h.size; omega⟩
 · rcases k.ends with e | e | ⟨b, e, hb⟩
   · rw [e]; exact h.ends
   · exact .inr (.inl e)
   · exact .inr (.inr ⟨b, e, by have := h.size; omega⟩)
end
end Go.Proofs.Ytmbnjgnmblgjoaa.Man
end
section
namespace Go.Proofs.Ytmbnjgnmblgjoaa.Man
open Go.RowKit Go.Shelf Go.Proofs.YtmbnjgnmblgjoaaW.PrintWords Go.Proofs.YtmbnjgnmblgjoaaW.PrintLast Go.Proofs.YtmbnjgnmblgjoaaW.PrintMore
set_option linter.unusedVariables false
set_option linter.unusedSimpArgs false
set_option maxRecDepth 100000
theorem JS.made {w w' : World} {base J B : Nat} {vE v' : Value} {es b : List Int} {s m : Int} (hb : base ≤ w.heap.size) (hJ : w.heap.size ≤ J) (hj : JAt w' J B vE) (he : IR w' w.heap.size vE es) (hd : DiskS w' base B v' b s m) : JS w' base J B vE v' es b s m :=
 ⟨hj, IR.len he, fun k hk => ⟨by have := R_ge he k hk; omega, R_typ he k hk⟩, hd, by omega⟩
end Go.Proofs.Ytmbnjgnmblgjoaa.Man
end
section
namespace Go.Proofs.Ytmbnjgnmblgjoaa.Man
open Go.RowKit Go.Shelf Go.Proofs.YtmbnjgnmblgjoaaW.PrintWords Go.Proofs.YtmbnjgnmblgjoaaW.PrintLast Go.Proofs.YtmbnjgnmblgjoaaW.PrintMore
set_option linter.unusedVariables false
set_option linter.unusedSimpArgs false
set_option maxRecDepth 100000
def sureN (es : List Int) (s : Int) : Nat → Nat
 | 0 => 0
 | n + 1 => if s < es.getD n 0 then sureN es s n else n + 1
section
variable {w w1 w2 : World} {base J D J' D' : Nat} {vE v vE' v' uE u : Value} {es es' b b' : List Int} {s m s' m' : Int}
end
end Go.Proofs.Ytmbnjgnmblgjoaa.Man
end
section
namespace Go.Proofs.Ytmbnjgnmblgjoaa.Man
open Go.RowKit Go.Proofs.YtmbnjgnmblgjoaaW.PrintWords Go.Proofs.YtmbnjgnmblgjoaaW.PrintLast Go.Proofs.YtmbnjgnmblgjoaaW.PrintMore
set_option linter.unusedVariables false
set_option linter.unusedSimpArgs false
set_option maxRecDepth 100000
def RJAt (w : World) (J D : Nat) (v : Value) : Prop := w.heap[J]? = some (.cells #[.pointer (some ⟨D, 0, none⟩), v] 124 (0, 0))
theorem RJAt.c0 {w : World} {J D : Nat} {v : Value} (k : RJAt w J D v) : w.cell? ⟨J, 0, none⟩ = some (.pointer (some ⟨D, 0, none⟩)) := by simp [World.cell?, show w.heap[J]? = _ from k]
theorem RJAt.c1 {w : World} {J D : Nat} {v : Value} (k : RJAt w J D v) : w.cell? ⟨J, 1, none⟩ = some v := by simp [World.cell?, show w.heap[J]? = _ from k]
theorem RJAt.f {w : World} {J D : Nat} {v : Value} (k : RJAt w J D v) (j : Nat) : w.frozen? ⟨J, j, none⟩ = false := by simp [World.frozen?, show w.heap[J]? = _ from k]
theorem RJAt.lt {w : World} {J D : Nat} {v : Value} (k : RJAt w J D v) : J < w.heap.size := (Array.getElem?_eq_some_iff.1 k).1
theorem RJAt.ne {w w1 : World} {J D : Nat} {v : Value} (k : RJAt w J D v) (h : w1.heap[J]? = w.heap[J]?) : RJAt w1 J D v := h.trans k
structure RJS (w : World) (base J D : Nat) (vE v : Value) (es b : List Int) (s m : Int) : Prop where
 jat : RJAt w J D vE
 row : ∃ A c, vE = .slice A es.length c ∧ es.length ≤ c ∧ Kd.C (Kd.int .i64) w A es.length es
 typ : ∀ k, vE.ownBlock = some k → base ≤ k ∧ ∃ cs, w.heap[k]? = some (.cells cs 3 (0, 0))
 disk : RefS w base D v b s m
 jge : base ≤ J
section
variable {w w1 w2 : World} {base J D J' D' : Nat} {vE v vE' v' uE u : Value} {es es' b b' : List Int} {s m s' m' : Int}
theorem RJS.lt (h : RJS w base J D vE v es b s m) : J < w.heap.size := h.jat.lt
theorem RJS.move (h : RJS w base J D vE v es b s m) (hJ : w1.heap[J]? = w.heap[J]?) (hE : ∀ k, vE.ownBlock = some k → w1.heap[k]? = w.heap[k]?) (hd : RefS w1 base D v' b' s' m') : RJS w1 base J D vE v' es b' s' m' := by
 obtain ⟨A, c, rfl, hc, hC⟩ := h.row
 exact ⟨h.jat.ne hJ, ⟨A, c, rfl, hc, C_typ hC hE⟩, fun k hk => ⟨(h.typ k hk).1, by rw [hE k hk]; exact (h.typ k hk).2⟩, hd, h.jge⟩
theorem RJS.elt (h : RJS w base J D vE v es b s m) (k : Nat) (hk : vE.ownBlock = some k) : k < w.heap.size := by
 obtain ⟨_, cs, hc⟩ := h.typ k hk
 exact (Array.getElem?_eq_some_iff.1 hc).1
theorem RJS.below {n : Nat} (h : RJS w base J D vE v es b s m) (hb : Below n w w1) (hn : w.heap.size ≤ n) : RJS w1 base J D vE v es b s m :=
 h.move (hb.block _ (by have := h.lt; omega)) (fun k hk => hb.block _ (by have := h.elt k hk; omega)) (h.disk.below hb hn)
end
end Go.Proofs.Ytmbnjgnmblgjoaa.Man
end
section
namespace Go.Proofs.Ytmbnjgnmblgjoaa.Man
open Go.RowKit Go.Proofs.YtmbnjgnmblgjoaaW.PrintWords Go.Proofs.YtmbnjgnmblgjoaaW.PrintLast Go.Proofs.YtmbnjgnmblgjoaaW.PrintMore
set_option linter.unusedVariables false
set_option linter.unusedSimpArgs false
set_option maxRecDepth 100000
def sureR (s : Int) : List Int → Nat
 | [] => 0
 | e :: es => if e ≤ s then sureR s es + 1 else 0
section
variable {w w1 w2 : World} {base J D : Nat} {vE v : Value} {es b : List Int} {s m : Int}
end
end Go.Proofs.Ytmbnjgnmblgjoaa.Man
end
section
namespace Go.Proofs.Ytmbnjgnmblgjoaa.Man
open Go.RowKit Go.Proofs.YtmbnjgnmblgjoaaW.PrintWords Go.Proofs.YtmbnjgnmblgjoaaW.PrintLast Go.Proofs.YtmbnjgnmblgjoaaW.PrintMore
set_option linter.unusedVariables false
set_option linter.unusedSimpArgs false
def kindOk2 (g : Bool) (x : K.S24) : Bool :=
 if x.f0 = 1 then decide (x.f1 ≤ x.f3 ∧ x.f3 < x.f4 ∧ x.f4 ≤ x.f2 ∧ 0 ≤ x.f5 ∧ x.f5 ≤ (x.f6.length : Int) ∧ x.f7 = 0)
 else if x.f0 = 0 then x.f7 == 0 && g
 else if x.f0 = 2 ∨ x.f0 = 3 then decide (x.f1 < x.f2) && (oneMark x.f7 && ((x.f6.length : Int) == 0 && g)) else false
end Go.Proofs.Ytmbnjgnmblgjoaa.Man
end
section
namespace Go.Proofs.Ytmbnjgnmblgjoaa.Man
open Go.RowKit Go.Proofs.YtmbnjgnmblgjoaaW.PrintWords Go.Proofs.YtmbnjgnmblgjoaaW.PrintLast Go.Proofs.YtmbnjgnmblgjoaaW.PrintMore
set_option linter.unusedVariables false
set_option linter.unusedSimpArgs false
set_option maxRecDepth 100000
end Go.Proofs.Ytmbnjgnmblgjoaa.Man
end
section
namespace Go.Proofs.Ytmbnjgnmblgjoaa.Man
open Go.RowKit Go.Proofs.YtmbnjgnmblgjoaaW.PrintWords Go.Proofs.YtmbnjgnmblgjoaaW.PrintLast Go.Proofs.YtmbnjgnmblgjoaaW.PrintMore
set_option linter.unusedVariables false
set_option linter.unusedSimpArgs false
set_option maxRecDepth 100000
end Go.Proofs.Ytmbnjgnmblgjoaa.Man
end
section
namespace Go.Proofs.Ytmbnjgnmblgjoaa.Man
open Go.RowKit Go.Proofs.YtmbnjgnmblgjoaaW.PrintWords Go.Proofs.YtmbnjgnmblgjoaaW.PrintLast Go.Proofs.YtmbnjgnmblgjoaaW.PrintMore
set_option linter.unusedVariables false
set_option linter.unusedSimpArgs false
set_option maxRecDepth 100000
abbrev Left := List Int × Int
def nnum (top : Int) (s : Left) : Int × Left := if s.2 ≠ 0 then (0, s) else match rnum top s.1 with | .ok (n, r) => (n, (r, 0)) | .error f => (0, (s.1, f))
def RdAt (w : World) (P : Nat) (A : Option Addr) (c n : Nat) (p : Nat) (e : Int) : Prop := w.heap[P]? = some (.cells #[.slice A n c, .int .i64 (p : Int), .int .i64 e] 180 (0, 0))
section
variable {w w1 : World} {P c n p : Nat} {A : Option Addr} {e : Int}
theorem RdAt.c0 (k : RdAt w P A c n p e) : w.cell? ⟨P, 0, none⟩ = some (.slice A n c) := by simp [World.cell?, show w.heap[P]? = _ from k]
theorem RdAt.c1 (k : RdAt w P A c n p e) : w.cell? ⟨P, 1, none⟩ = some (.int .i64 (p : Int)) := by simp [World.cell?, show w.heap[P]? = _ from k]
theorem RdAt.c2 (k : RdAt w P A c n p e) : w.cell? ⟨P, 2, none⟩ = some (.int .i64 e) := by simp [World.cell?, show w.heap[P]? = _ from k]
theorem RdAt.f (k : RdAt w P A c n p e) (i : Nat) : w.frozen? ⟨P, i, none⟩ = false := by simp [World.frozen?, show w.heap[P]? = _ from k]
theorem RdAt.lt (k : RdAt w P A c n p e) : P < w.heap.size := (Array.getElem?_eq_some_iff.1 k).1
theorem RdAt.put (k : RdAt w P A c n p e) (q : Nat) : RdAt (w.setCell ⟨P, 1, none⟩ (.int .i64 (q : Int))) P A c n q e := by
 unfold RdAt World.setCell
 simp [Array.getElem?_modify, show w.heap[P]? = _ from k]
theorem RdAt.below {m : Nat} (k : RdAt w P A c n p e) (h : Below m w w1) (hm : P < m) : RdAt w1 P A c n p e := (h.block P hm).trans k
end
def LeftAt (w : World) (P : Nat) (A : Option Addr) (c : Nat) (b : List Int) (s : Left) : Prop := ∃ q, q ≤ b.length ∧ s.1 = b.drop q ∧ RdAt w P A c b.length q s.2
theorem LeftAt.lt {w : World} {P c : Nat} {A : Option Addr} {b : List Int} {s : Left} (h : LeftAt w P A c b s) : P < w.heap.size := by obtain ⟨q, _, _, k⟩ := h; exact k.lt
theorem LeftAt.below {w w1 : World} {P c m : Nat} {A : Option Addr} {b : List Int} {s : Left} (h : LeftAt w P A c b s) (hb : Below m w w1) (hm : P < m) : LeftAt w1 P A c b s := by obtain ⟨q, h1, h2, k⟩ := h; exact ⟨q, h1, h2, k.below hb hm⟩
theorem LeftAt.c2 {w : World} {P c : Nat} {A : Option Addr} {b : List Int} {s : Left} (h : LeftAt w P A c b s) : w.cell? ⟨P, 2, none⟩ = some (.int .i64 s.2) := by obtain ⟨q, _, _, k⟩ := h; exact k.c2
theorem LeftAt.grown {w w1 : World} {P c : Nat} {A : Option Addr} {b : List Int} {s : Left} {r : Option Nat} (h : LeftAt w P A c b s) (hg : w.grownBy w1 r) (hr : some P ≠ r) : LeftAt w1 P A c b s := by obtain ⟨q, h1, h2, k⟩ := h; exact ⟨q, h1, h2, (hg.block _ k.lt hr).trans k⟩
def rnumR3.T : Bool × List (List Nat × List Nat) := (true, [([], []), ([0], [0]), ([1], [1]), ([2], [2]), ([], []), ([4], [4]), ([5], [5]), ([6], [6]), ([3, 7], [3, 7]), ([8], [8]), ([9], [9]), ([9], [9]), ([9], [9]), ([10, 8, 0, 1, 2, 3, 4, 5, 6, 7, 8, 9, 10], [10]), ([11, 13, 0, 1, 2, 3, 4, 5, 6, 7, 8, 9, 10, 11, 13], [11]), ([12, 14, 0, 1, 2, 3, 4, 5, 6, 7, 8, 9, 10, 11, 12, 13, 14], [12])])
def rnumR3.B : List Nat := [0, 1, 3, 7, 0, 16, 48, 112, 255, 511, 1023, 1023, 1023, 2047, 12287, 32767]
end Go.Proofs.Ytmbnjgnmblgjoaa.Man
end
section
namespace Go.Proofs.Ytmbnjgnmblgjoaa.Man
open Go.RowKit Go.Proofs.YtmbnjgnmblgjoaaW.PrintWords Go.Proofs.YtmbnjgnmblgjoaaW.PrintLast Go.Proofs.YtmbnjgnmblgjoaaW.PrintMore
set_option linter.unusedVariables false
set_option linter.unusedSimpArgs false
set_option maxRecDepth 100000
def ntok (s : Left) : K.S111 × Left :=
 if (nnum most s).1 % 4 = 0 then (⟨0, 0, (nnum most s).1 / 4, (nnum most (nnum most s).2).1⟩, (nnum most (nnum most s).2).2)
 else if (nnum most s).1 % 4 = 1 ∨ (nnum most s).1 % 4 = 3 then (⟨(nnum most s).1 % 4, (nnum most (nnum most s).2).1, (nnum most s).1 / 4, 0⟩, (nnum most (nnum most s).2).2)
 else (⟨2, 0, (nnum most s).1 / 4, 0⟩, (nnum most s).2)
def ntoks : Nat → Left → List K.S111 × Left
 | 0, s => ([], s)
 | n + 1, s => if s.2 = 0 then ((ntok s).1 :: (ntoks n (ntok s).2).1, (ntoks n (ntok s).2).2) else ([], s)
def ndoc (s : Left) : List K.S111 × Left := ntoks (nnum 2048 s).1.toNat (nnum 2048 s).2
theorem LeftAt.onB {w w1 : World} {P c : Nat} {A : Option Addr} {b : List Int} {s : Left} (h : LeftAt w P A c b s) (e : w1.heap[P]? = w.heap[P]?) : LeftAt w1 P A c b s := by obtain ⟨q, h1, h2, k⟩ := h; exact ⟨q, h1, h2, e.trans k⟩
end Go.Proofs.Ytmbnjgnmblgjoaa.Man
end
section
namespace Go.Proofs.Ytmbnjgnmblgjoaa.Man
open Go.RowKit Go.Proofs.YtmbnjgnmblgjoaaW.PrintWords Go.Proofs.YtmbnjgnmblgjoaaW.PrintLast Go.Proofs.YtmbnjgnmblgjoaaW.PrintMore
set_option linter.unusedVariables false
set_option linter.unusedSimpArgs false
set_option maxRecDepth 100000
def nentK (who seq k fm tt : Int) (s : Left) : K.S26 × Left :=
 if k = 0 then (match ndoc s with | (l, s) => (⟨who, seq, ⟨k, fm, tt, 0, 0, 0, l, 0⟩⟩, s))
 else if k = 1 then (match nnum most s with | (gf, s) => match nnum most s with | (gt, s) => match nnum most s with | (ins, s) => match ndoc s with | (l, s) => (⟨who, seq, ⟨k, fm, tt, gf, gt, ins, l, 0⟩⟩, s))
 else (match nnum most s with | (m, s) => (⟨who, seq, ⟨k, fm, tt, 0, 0, 0, [], m⟩⟩, s))
def nent (s : Left) : K.S26 × Left :=
 match nnum most s with | (who, s) => match nnum most s with | (seq, s) => match nnum 3 s with | (k, s) => match nnum most s with | (fm, s) => match nnum most s with | (tt, s) => nentK who seq k fm tt s
structure NeS (w W : World) (P : Nat) (A : Option Addr) (c : Nat) (b : List Int) (s : Left) (a0 a1 a2 a3 a4 a5 a6 a7 : Int) (v : Value) (a9 : Int) : Prop where
 left : LeftAt W P A c b s
 ent : EntC W (w.heap.size + 1) a0 a1 a2 a3 a4 a5 a6 a7 v a9
 res : EntC W w.heap.size 0 0 0 0 0 0 0 0 (.slice none 0 0) 0
 gr : w.grownBy W (some P)
 sz : w.heap.size + 2 ≤ W.heap.size
section
variable {w W W' : World} {P c : Nat} {A : Option Addr} {b : List Int} {s s' : Left} {a0 a1 a2 a3 a4 a5 a6 a7 a9 b0 b1 b2 b3 b4 b5 b6 b7 b9 : Int} {v v' : Value}
theorem NeS.num (h : NeS w W P A c b s a0 a1 a2 a3 a4 a5 a6 a7 v a9) (hP : P < w.heap.size) (hk : LeftAt W' P A c b s') (hg : W.grownBy W' (some P)) : NeS w W' P A c b s' a0 a1 a2 a3 a4 a5 a6 a7 v a9 :=
 ⟨hk, h.ent.ne (hg.block _ h.ent.lt (by intro e; have := Option.some.inj e; omega)), h.res.ne (hg.block _ h.res.lt (by intro e; have := Option.some.inj e; omega)), h.gr.trans hg, Nat.le_trans h.sz hg.size⟩
theorem NeS.put (h : NeS w W P A c b s a0 a1 a2 a3 a4 a5 a6 a7 v a9) (hP : P < w.heap.size) (i : Nat) (u : Value) (he : (#[.int .i64 a0, .int .i64 a1, .int .i64 a2, .int .i64 a3, .int .i64 a4, .int .i64 a5, .int .i64 a6, .int .i64 a7, v, .int .i64 a9] : Array Value).setIfInBounds i u = #[.int .i64 b0, .int .i64 b1, .int .i64 b2, .int .i64 b3, .int .i64 b4, .int .i64 b5, .int .i64 b6, .int .i64 b7, v', .int .i64 b9]) : NeS w (W.setCell ⟨w.heap.size + 1, i, none⟩ u) P A c b s b0 b1 b2 b3 b4 b5 b6 b7 v' b9 :=
 ⟨h.left.onB (heap_set_ne W _ i P u (by omega)), h.ent.put i u he, h.res.ne (heap_set_ne W _ i _ u (by omega)), grown_setT h.gr _ i u (by omega), by have := h.sz; simpa [World.setCell] using this⟩
end
end Go.Proofs.Ytmbnjgnmblgjoaa.Man
end
section
namespace Go.Proofs.Ytmbnjgnmblgjoaa.Man
open Go.RowKit Go.Proofs.YtmbnjgnmblgjoaaW.PrintWords Go.Proofs.YtmbnjgnmblgjoaaW.PrintLast Go.Proofs.YtmbnjgnmblgjoaaW.PrintMore
set_option linter.unusedVariables false
set_option linter.unusedSimpArgs false
def Sim {α : Type} (r : Rd α) (p : α × Left) : Prop := match r with | .ok (x, l) => p = (x, (l, 0)) | .error f => p.2.2 = f ∧ f ≠ 0
theorem Sim.ok {α : Type} (x : α) (l : List Int) : Sim (.ok (x, l)) (x, (l, 0)) := rfl
theorem Sim.bnd {α β : Type} {r : Rd α} {f : α → List Int → Rd β} {p : α × Left} {g : α → Left → β × Left} (h1 : Sim r p) (h2 : ∀ x l, r = .ok (x, l) → Sim (f x l) (g x (l, 0))) (h3 : ∀ x s, s.2 ≠ 0 → (g x s).2.2 = s.2) : Sim (bnd r f) (g p.1 p.2) := by
 match r, h1, h2 with
 | .error e, h1, _ => obtain ⟨h, hne⟩ := h1; exact ⟨by rw [h3 _ _ (by rw [h]; exact hne), h], hne⟩
 | .ok (x, l), h1, h2 => obtain rfl : p = (x, (l, 0)) := h1; exact h2 x l rfl
def nend (s : Left) (fine : Bool) : Int := if s.2 = 0 ∧ (0 < s.1.length ∨ fine = false) then 4 else s.2
end Go.Proofs.Ytmbnjgnmblgjoaa.Man
end
section
namespace Go.Proofs.Ytmbnjgnmblgjoaa.Man
open Go.RowKit Go.Proofs.YtmbnjgnmblgjoaaW.PrintWords Go.Proofs.YtmbnjgnmblgjoaaW.PrintLast Go.Proofs.YtmbnjgnmblgjoaaW.PrintMore
set_option linter.unusedVariables false
set_option linter.unusedSimpArgs false
set_option maxRecDepth 100000
end Go.Proofs.Ytmbnjgnmblgjoaa.Man
end
section
namespace Go.Proofs.Ytmbnjgnmblgjoaa.Man
open Go.RowKit Go.Proofs.YtmbnjgnmblgjoaaW.PrintWords Go.Proofs.YtmbnjgnmblgjoaaW.PrintLast Go.Proofs.YtmbnjgnmblgjoaaW.PrintMore
set_option linter.unusedVariables false
set_option linter.unusedSimpArgs false
set_option maxRecDepth 100000
end Go.Proofs.Ytmbnjgnmblgjoaa.Man
end
section
namespace Go.Proofs.Ytmbnjgnmblgjoaa.Man
open Go.RowKit Go.Shelf Go.Proofs.YtmbnjgnmblgjoaaW.PrintWords Go.Proofs.YtmbnjgnmblgjoaaW.PrintLast Go.Proofs.YtmbnjgnmblgjoaaW.PrintMore
set_option linter.unusedVariables false
set_option linter.unusedSimpArgs false
set_option maxRecDepth 100000
def jaR12.T : Bool × List (List Nat × List Nat) := (true, [([], []), ([], []), ([1], [1]), ([], []), ([3], [3]), ([0, 2, 4], [0, 2, 4]), ([], []), ([6], [6]), ([7], [7]), ([8], [8]), ([9], [9]), ([], []), ([11], [11]), ([10, 12], [10, 12]), ([13], [13]), ([5, 14, 10], [5, 14]), ([15, 15, 0, 1, 2, 3, 4, 5, 6, 7, 8, 9, 10, 11, 12, 13, 14, 15], [0, 1, 3, 15])])
def jaR12.B : List Nat := [0, 0, 2, 0, 8, 31, 0, 64, 192, 448, 960, 0, 2048, 8128, 16320, 32767, 65535]
def jErr : List K.S26 → Int
 | [] => 0
 | x :: xs => if frameErr x = 0 then jErr xs else frameErr x
def jappE (m : Int) (b : List Int) (l : List K.S26) : Int := if jErr l = 0 then appE m b (flatE l) else jErr l
def jappL (m : Int) (b : List Int) (l : List K.S26) : List Int := if jErr l = 0 then appL m b (flatE l) else b
def jappEs (m : Int) (b es : List Int) (l : List K.S26) : List Int := if jappE m b l = 0 then es ++ endsE b.length l else es
theorem DStep.R {α : Type} {d : Kd α} {e base B : Nat} {w w1 : World} {v v' u : Value} {xs : List α} (st : DStep w w1 B v v') (h : d.R e w base (fun _ => True) u xs) (hB : B < base) (hv : ∀ k, v.ownBlock = some k → k < base) : d.R e w1 base (fun _ => True) u xs :=
 Kd.R_mono (Kd.R_move (Kd.R_bound h) (fun k hk => st.block k hk.2.2.1 (by have := hk.2.1; omega) (fun e => by have := hv k e.symm; have := hk.2.1; omega))) (fun _ _ => trivial)
theorem JStep.put {w w1 : World} {J D : Nat} {v v' vE vE' : Value} (h : JStep w w1 J D v v' vE vE') (u uE : Value) (hE : uE.ownBlock = vE.ownBlock ∨ uE.ownBlock = none ∨ ∃ b, uE.ownBlock = some b ∧ w.heap.size ≤ b) : JStep w (w1.setCell ⟨J, 1, none⟩ u) J D v v' vE uE :=
 ⟨h.os, h.tape, h.output, by simpa [World.setCell] using h.size, fun k hk h1 h2 h3 => (Below.heap_setCell _ _ _ _ (by show k ≠ J; exact h1)).trans (h.block k hk h1 h2 h3), h.row, hE⟩
def EndsAt (w : World) (n0 i : Nat) (vE vS : Value) (zs : List Int) : Prop := (i = 0 ∧ vS = vE) ∨ IR w n0 vS zs
end Go.Proofs.Ytmbnjgnmblgjoaa.Man
end
section
namespace Go.Proofs.Ytmbnjgnmblgjoaa.Man
open Go.RowKit Go.Proofs.YtmbnjgnmblgjoaaW.PrintWords Go.Proofs.YtmbnjgnmblgjoaaW.PrintLast Go.Proofs.YtmbnjgnmblgjoaaW.PrintMore
set_option linter.unusedVariables false
set_option linter.unusedSimpArgs false
set_option maxRecDepth 100000
theorem openF_small (b : List Int) (p : Nat) : (openF b (p : Int)).1.length ≤ 65536 := by
 unfold openF
 split
 · simp
 · split
   · simp
   · split
     · simp
     · split
       · simp
       · simp only
         unfold mid
         rw [List.length_drop, List.length_take]
         omega
structure RJo (w W : World) (D J : Nat) (vE vL : Value) (done : List K.S26) : Prop where
 jr : RJAt W J D vE
 ends : IR W (J + 1) vE (endsE 0 done)
 ents : ER W (J + 1) vL done
 bel : Below w.heap.size w W
 sz : J + 1 ≤ W.heap.size
 j0 : w.heap.size ≤ J
section
variable {w W W' : World} {D J : Nat} {vE vL v' : Value} {done : List K.S26}
theorem RJo.below (h : RJo w W D J vE vL done) (hb : Below W.heap.size W W') : RJo w W' D J vE vL done :=
 ⟨(hb.block _ h.jr.lt).trans h.jr, Kd.R_below h.ends hb, Kd.R_below h.ents hb, h.bel.trans (hb.mono h.bel.size), Nat.le_trans h.sz hb.size, h.j0⟩
theorem RJAt.grown {es : List Int} (h : RJAt W J D vE) (hi : IR W (J + 1) vE es) (hg : W.grownBy W' vE.ownBlock) : RJAt W' J D vE := (hg.block _ h.lt (fun e => by have := R_ge hi J e.symm; omega)).trans h
end
end Go.Proofs.Ytmbnjgnmblgjoaa.Man
end
section
namespace Go.Proofs.Ytmbnjgnmblgjoaa.Man
open Go.RowKit Go.Shelf Go.Proofs.YtmbnjgnmblgjoaaW.PrintWords Go.Proofs.YtmbnjgnmblgjoaaW.PrintLast Go.Proofs.YtmbnjgnmblgjoaaW.PrintMore
set_option linter.unusedVariables false
set_option linter.unusedSimpArgs false
set_option maxRecDepth 100000
def RHeld (w : World) (h : Held) (e : Ending) (w' : World) : Prop := ∃ A c, e = .returned (.tuple #[.slice A h.1.length c, .int .u64 h.2.1, .bool h.2.2]) ∧ h.1.length ≤ c ∧ Kd.C (Kd.int .u8) w' A h.1.length h.1 ∧ Below w.heap.size w w'
set_option maxHeartbeats 8000000 in
theorem rheld_is {w : World} {base B : Nat} {v : Value} {xs : List Int} {s m : Int} (h : RefS w base B v xs s m) (hB : areBytesN xs = true) :
 Calls Try.prog 122 #[.pointer (some ⟨B, 0, none⟩)] w (RHeld w (heldF xs)) := by
 unfold RHeld
 have hm : (xs.length : Int) ≤ 262144 := by have := h.len; have := h.m1; omega
 obtain ⟨hv, hhv⟩ : ∃ hv, heldF xs = hv := ⟨_, rfl⟩
 rw [hhv]
 unfold heldF at hhv
 have hob := openF_bytes xs 0 hB
 obtain ⟨A, c, rfl, hc⟩ := h.row.len
 have z0 := h.cells.c0
 have ho := ropen_is A c xs 0 w h.row.C.2 hc hB (by omega) (Nat.zero_le _)
 have hol : (openF xs 0).1.length ≤ 65536 := openF_small xs 0
 rw [show (((0 : Nat) : Int)) = 0 from rfl] at ho
 obtain ⟨⟨b, nx, er⟩, hop⟩ : ∃ r, openF xs 0 = r := ⟨_, rfl⟩
 rw [hop] at hhv hob ho hol
 simp only at hhv hob ho hol
 have hg := fun A c (W : World) hr hc => rget_is A c b 0 W hr hc hob (by omega)
 rw [show (((0 : Nat) : Int)) = 0 from rfl] at hg
 have hgr := getF_range b 0 hob
 obtain ⟨⟨g, at_, eg⟩, hge⟩ : ∃ r, getF b 0 = r := ⟨_, rfl⟩
 rw [hge] at hhv hg hgr
 simp only at hhv hg hgr
 have H := Lib.hid h
 have HO := Lib.hid ho
 have HG := Lib.hid hg
 have HC0 : Hid (∀ W, Below w.heap.size w W → W.cell? ⟨B, 0, none⟩ = some (.slice A xs.length c)) := Lib.hid fun W hb => (h.below hb (Nat.le_refl _)).cells.c0
 clear h ho hg hB hop hge hol
 have HN : Hid (∀ W : World, Kd.C (Kd.int .u8) W none ([] : List Int).length []) := Lib.hid fun W => C_nil W .u8
 have HCUT : Hid (eg = 0 → ∀ A c, b.length ≤ c → ∃ A' : Option Addr, (∀ W : World, (Instr.slice 27 (.slice A b.length c) (some (.int .i64 at_)) none none).run Try.prog W = .ok (.slice A' (b.drop at_.toNat).length (c - at_.toNat)) W) ∧
  (∀ w : World, Kd.C (Kd.int .u8) w A b.length b → Kd.C (Kd.int .u8) w A' (b.drop at_.toNat).length (b.drop at_.toNat)) ∧ (b.drop at_.toNat).length ≤ c - at_.toNat) := Lib.hid fun he A c hc => by
  obtain ⟨i0, hi0, hsz0⟩ : ∃ i0, Try.prog.info? 5 = some i0 ∧ i0.size = 1 := by obtain ⟨i0, h, _, h2, _⟩ := info_parts info_u8; exact ⟨i0, h, h2⟩
  obtain ⟨_, q1, q2, _⟩ := hgr he
  obtain ⟨A', p1, p2, _⟩ := print_drop_of (P := Try.prog) (Value.int .u8) 0 27 5 .i64 Try.underlying27 hi0 hsz0 A c b at_ q1 q2 hc
  exact ⟨A', p1, fun w h => Kd.C_of_reads (h1 := fun _ => rfl) (p2 w (Kd.reads_of_C h)), by rw [List.length_drop]; omega⟩
 clear hgr hob
 by_cases h1 : er ≠ 0 ∨ nx ≠ (xs.length : Int)
 · have hh : hv = ([], 0, false) := by
    rw [← hhv]
    by_cases q : er ≠ 0
    · rw [if_pos q]
    · rw [if_neg q, if_pos (by omega)]
   subst hh
   clear hhv
   rcases (show er ≠ 0 ∨ (er = 0 ∧ nx ≠ (xs.length : Int)) by omega) with q | ⟨rfl, q⟩
   all_goals
    first | (have q1 : (er != 0) = true := (by simpa using q)) | (have q1 : (nx != (xs.length : Int)) = true := (by simpa using q))
    go_enter Try.func122, Try.ntmps122
    go_wp2_with (go_at_call 140; refine HO.out.mono ?_; rintro e w2 ⟨u, rfl, hr, hb⟩; obtain ⟨A2, k2, rfl, hk2, hC2⟩ := BR.len hr; have z1 := HC0.out _ hb; have HB2 := Lib.hid hb; clear hr hb hC2 hk2)
    go_ret3
    exact ⟨none, 0, rfl, Nat.le_refl _, HN.out _, HB2.out⟩
 obtain ⟨rfl, rfl⟩ : er = 0 ∧ nx = (xs.length : Int) := by omega
 rw [if_neg (by simp), if_neg (by simp)] at hhv
 clear h1
 by_cases h3 : eg ≠ 0
 · rw [if_pos h3] at hhv
   subst hhv
   have q1 : (eg != 0) = true := by simpa using h3
   go_enter Try.func122, Try.ntmps122
   go_wp2_with (first
    | (go_at_call 140; refine HO.out.mono ?_; rintro e w2 ⟨u, rfl, hr, hb⟩; obtain ⟨A2, k2, rfl, hk2, hC2⟩ := BR.len hr; have HC2 := Lib.hid hC2; have z1 := HC0.out _ hb; have HB2 := Lib.hid hb; clear hr hb hC2)
    | (go_at_call 156; refine (HG.out A2 k2 _ HC2.out hk2).mono ?_; rintro e w3 ⟨rfl, n3, rfl⟩))
   go_ret3
   exact ⟨none, 0, rfl, Nat.le_refl _, HN.out _, pw_below_drewN HB2.out _⟩
 rw [if_neg h3] at hhv
 obtain rfl : eg = 0 := by omega
 subst hhv
 have HCU := Lib.hid (HCUT.out rfl)
 clear HCUT
 obtain ⟨dr, hdr⟩ : ∃ dr, b.drop at_.toNat = dr := ⟨_, rfl⟩
 rw [hdr] at HCU
 rw [hdr]
 clear hdr
 go_enter Try.func122, Try.ntmps122
 go_wp2_with (first
  | (go_at_call 140; refine HO.out.mono ?_; rintro e w2 ⟨u, rfl, hr, hb⟩; obtain ⟨A2, k2, rfl, hk2, hC2⟩ := BR.len hr; have HC2 := Lib.hid hC2; have z1 := HC0.out _ hb; have HB2 := Lib.hid hb; clear hr hb hC2; obtain ⟨A3, hcut, hAc, hle⟩ := HCU.out A2 k2 hk2; have HAC := Lib.hid hAc; have HLE := Lib.hid hle; clear hAc hle)
  | (go_at_call 156; refine (HG.out A2 k2 _ HC2.out hk2).mono ?_; rintro e w3 ⟨rfl, n3, rfl⟩))
 go_ret3
 exact ⟨A3, _, rfl, HLE.out, HAC.out _ (Kd.C_below HC2.out (pw_below_drewN (Below.refl _ _) _)), pw_below_drewN HB2.out _⟩
end Go.Proofs.Ytmbnjgnmblgjoaa.Man
end
section
namespace Go.Proofs.Ytmbnjgnmblgjoaa.Man
open Go.RowKit Go.Shelf Go.Proofs.YtmbnjgnmblgjoaaW.PrintWords Go.Proofs.YtmbnjgnmblgjoaaW.PrintLast Go.Proofs.YtmbnjgnmblgjoaaW.PrintMore
set_option linter.unusedVariables false
set_option linter.unusedSimpArgs false
set_option maxRecDepth 100000
def RStore (w : World) (S BX BY : Nat) : Prop := w.heap[S]? = some (.cells #[.pointer (some ⟨BX, 0, none⟩), .pointer (some ⟨BY, 0, none⟩)] 88 (0, 0))
theorem RStore.c0 {w : World} {S BX BY : Nat} (k : RStore w S BX BY) : w.cell? ⟨S, 0, none⟩ = some (.pointer (some ⟨BX, 0, none⟩)) := by simp [World.cell?, show w.heap[S]? = _ from k]
theorem RStore.c1 {w : World} {S BX BY : Nat} (k : RStore w S BX BY) : w.cell? ⟨S, 1, none⟩ = some (.pointer (some ⟨BY, 0, none⟩)) := by simp [World.cell?, show w.heap[S]? = _ from k]
theorem RStore.lt {w : World} {S BX BY : Nat} (k : RStore w S BX BY) : S < w.heap.size := (Array.getElem?_eq_some_iff.1 k).1
theorem RStore.move {w w1 : World} {S BX BY : Nat} (k : RStore w S BX BY) (h : w1.heap[S]? = w.heap[S]?) : RStore w1 S BX BY := h.trans k
theorem RStore.below {w w1 : World} {S BX BY m : Nat} (k : RStore w S BX BY) (h : Below m w w1) (hm : S < m) : RStore w1 S BX BY := (h.block S hm).trans k
structure RN (w : World) (base S BX BY : Nat) (v u : Value) (X Y : List Int) (s s' m : Int) : Prop where
 st : RStore w S BX BY
 x : RefS w base BX v X s m
 y : RefS w base BY u Y s' m
 bx : areBytesN X = true
 by_ : areBytesN Y = true
theorem RN.below {w w1 : World} {base S BX BY n : Nat} {v u : Value} {X Y : List Int} {s s' m : Int} (h : RN w base S BX BY v u X Y s s' m) (hb : Below n w w1) (hn : w.heap.size ≤ n) : RN w1 base S BX BY v u X Y s s' m :=
 { h with st := h.st.below hb (by have := h.st.lt; omega), x := h.x.below hb hn, y := h.y.below hb hn }
def newI (x y : Held) : Int := if firstF x y then 0 else if y.2.2 then 1 else -1
set_option maxHeartbeats 8000000 in
theorem rnewest_is {w : World} {base S BX BY : Nat} {v u : Value} {X Y : List Int} {s s' m : Int} (h : RN w base S BX BY v u X Y s s' m) :
 Calls Try.prog 121 #[.pointer (some ⟨S, 0, none⟩)] w fun e w' => e = .returned (.int .i64 (newI (heldF X) (heldF Y))) ∧ Below w.heap.size w w' := by
 have a0 := h.st.c0
 have HX := Lib.hid (rheld_is h.x h.bx)
 have HY : Hid (∀ W, Below w.heap.size w W → W.cell? ⟨S, 1, none⟩ = some (.pointer (some ⟨BY, 0, none⟩)) ∧ Calls Try.prog 122 #[.pointer (some ⟨BY, 0, none⟩)] W (RHeld W (heldF Y))) := Lib.hid fun W hb => ⟨(h.below hb (Nat.le_refl _)).st.c1, rheld_is (h.below hb (Nat.le_refl _)).y h.by_⟩
 clear h
 generalize heldF X = hx at HX ⊢
 generalize heldF Y = hy at HY ⊢
 unfold RHeld at HX HY
 obtain ⟨bx, gx, ix⟩ := hx
 obtain ⟨b2, gy, iy⟩ := hy
 obtain ⟨r, hr⟩ : ∃ r, newI (bx, gx, ix) (b2, gy, iy) = r := ⟨_, rfl⟩
 rw [hr]
 have hq : (ix = false ∧ iy = false ∧ r = -1) ∨ (ix = false ∧ iy = true ∧ r = 1) ∨ (ix = true ∧ iy = false ∧ r = 0) ∨ (ix = true ∧ iy = true ∧ gy ≤ gx ∧ r = 0) ∨ (ix = true ∧ iy = true ∧ ¬ gy ≤ gx ∧ r = 1) := by
  rw [← hr]
  unfold newI firstF
  by_cases q : gy ≤ gx <;> cases ix <;> cases iy <;> simp [q]
 simp only at HX HY
 clear hr
 rcases hq with ⟨rfl, rfl, rfl⟩ | ⟨rfl, rfl, rfl⟩ | ⟨rfl, rfl, rfl⟩ | ⟨rfl, rfl, q, rfl⟩ | ⟨rfl, rfl, q, rfl⟩
 all_goals
  go_enter Try.func121, Try.ntmps121
  go_wp2_with (first
   | (go_at_call_of 122 (Value.pointer (some ⟨BX, 0, none⟩)); refine HX.out.mono ?_; rintro e w1 ⟨A1, c1, rfl, _, _, hb⟩; obtain ⟨a1, hc⟩ := HY.out _ hb; have HC := Lib.hid hc; have HB1 := Lib.hid hb; clear hb hc)
   | (go_at_call_of 122 (Value.pointer (some ⟨BY, 0, none⟩)); refine HC.out.mono ?_; rintro e w2 ⟨A2, c2, rfl, _, _, hb⟩; have HB2 := Lib.hid (HB1.out.trans (hb.mono HB1.out.size)); clear hb))
  go_ret
  exact ⟨rfl, HB2.out⟩
theorem rslot0_is {w : World} {S BX BY : Nat} (h : RStore w S BX BY) : Calls Try.prog 123 #[.pointer (some ⟨S, 0, none⟩), .int .i64 0] w fun e w' => e = .returned (.pointer (some ⟨BX, 0, none⟩)) ∧ w = w' := by
 have c0 := h.c0
 clear h
 go_enter Try.func123, Try.ntmps123
 go_wp2
 go_ret
 exact ⟨rfl, rfl⟩
theorem rslot1_is {w : World} {S BX BY : Nat} (h : RStore w S BX BY) : Calls Try.prog 123 #[.pointer (some ⟨S, 0, none⟩), .int .i64 1] w fun e w' => e = .returned (.pointer (some ⟨BY, 0, none⟩)) ∧ w = w' := by
 have c1 := h.c1
 clear h
 go_enter Try.func123, Try.ntmps123
 go_wp2
 go_ret
 exact ⟨rfl, rfl⟩
theorem new_ways (x y : Held) : (newI x y = 0 ∧ newF x y = (x, 1) ∧ x.2.2 = true) ∨ (newI x y = 1 ∧ newF x y = (y, 0) ∧ y.2.2 = true) ∨ (newI x y = -1 ∧ newF x y = (([], 0, false), 0)) := by
 unfold newI newF
 by_cases h1 : firstF x y = true
 · rw [if_pos h1, if_pos h1]
   refine .inl ⟨rfl, rfl, ?_⟩
   unfold firstF at h1
   simp at h1
   exact h1.1
 · rw [if_neg h1, if_neg h1]
   by_cases h2 : y.2.2 = true
   · rw [if_pos h2, if_pos h2]; exact .inr (.inl ⟨rfl, rfl, h2⟩)
   · rw [if_neg h2, if_neg h2]; exact .inr (.inr ⟨rfl, rfl⟩)
theorem rgen_is {w : World} {base S BX BY : Nat} {v u : Value} {X Y : List Int} {s s' m : Int} (h : RN w base S BX BY v u X Y s s' m) :
 Calls Try.prog 61 #[.pointer (some ⟨S, 0, none⟩)] w fun e w' => e = .returned (.int .u64 (newF (heldF X) (heldF Y)).1.2.1) ∧ Below w.heap.size w w' := by
 have HN := Lib.hid (rnewest_is h)
 have H := Lib.hid h
 clear h
 rcases new_ways (heldF X) (heldF Y) with ⟨q1, q2, _⟩ | ⟨q1, q2, _⟩ | ⟨q1, q2⟩
 · rw [q2]; simp only
   rw [q1] at HN
   clear q1 q2
   go_enter Try.func61, Try.ntmps61
   go_wp2_with (first
    | (go_at_call 121; refine HN.out.mono ?_; rintro e w1 ⟨rfl, hb⟩; have H1 := Lib.hid (H.out.below hb (Nat.le_refl _)); have HB1 := Lib.hid hb; clear hb)
    | (go_at_call 123; refine (rslot0_is H1.out.st).mono ?_; rintro e w' ⟨rfl, rfl⟩)
    | (go_at_call 122; refine (rheld_is H1.out.x H1.out.bx).mono ?_; rintro e w2 ⟨A2, c2, rfl, _, _, hb⟩; have HB2 := Lib.hid (HB1.out.trans (hb.mono HB1.out.size)); clear hb))
   go_ret
   exact ⟨rfl, HB2.out⟩
 · rw [q2]; simp only
   rw [q1] at HN
   clear q1 q2
   go_enter Try.func61, Try.ntmps61
   go_wp2_with (first
    | (go_at_call 121; refine HN.out.mono ?_; rintro e w1 ⟨rfl, hb⟩; have H1 := Lib.hid (H.out.below hb (Nat.le_refl _)); have HB1 := Lib.hid hb; clear hb)
    | (go_at_call 123; refine (rslot1_is H1.out.st).mono ?_; rintro e w' ⟨rfl, rfl⟩)
    | (go_at_call 122; refine (rheld_is H1.out.y H1.out.by_).mono ?_; rintro e w2 ⟨A2, c2, rfl, _, _, hb⟩; have HB2 := Lib.hid (HB1.out.trans (hb.mono HB1.out.size)); clear hb))
   go_ret
   exact ⟨rfl, HB2.out⟩
 · rw [q2]; simp only
   rw [q1] at HN
   clear q1 q2
   go_enter Try.func61, Try.ntmps61
   go_wp2_with (go_at_call 121; refine HN.out.mono ?_; rintro e w1 ⟨rfl, hb⟩; have HB1 := Lib.hid hb; clear hb)
   go_ret
   exact ⟨rfl, HB1.out⟩
end Go.Proofs.Ytmbnjgnmblgjoaa.Man
end
section
namespace Go.Proofs.Ytmbnjgnmblgjoaa.Man
open Go.RowKit Go.Shelf Go.Proofs.YtmbnjgnmblgjoaaW.PrintWords Go.Proofs.YtmbnjgnmblgjoaaW.PrintLast Go.Proofs.YtmbnjgnmblgjoaaW.PrintMore
set_option linter.unusedVariables false
set_option linter.unusedSimpArgs false
set_option maxRecDepth 100000
def RLoad (w : World) (h : Held) (e : Ending) (w' : World) : Prop := ∃ A c, e = .returned (.tuple #[.slice A h.1.length c, .bool h.2.2]) ∧ Kd.C (Kd.int .u8) w' A h.1.length h.1 ∧ Below w.heap.size w w'
set_option maxHeartbeats 4000000 in
theorem rload_is {w : World} {base S BX BY : Nat} {v u : Value} {X Y : List Int} {s s' m : Int} (h : RN w base S BX BY v u X Y s s' m) :
 Calls Try.prog 59 #[.pointer (some ⟨S, 0, none⟩)] w (RLoad w (newF (heldF X) (heldF Y)).1) := by
 have HN := Lib.hid (rnewest_is h)
 have H := Lib.hid h
 have hlx : (heldF X).1.length ≤ 262144 := by have := heldF_le X; have := h.x.len; have := h.x.m1; omega
 have hly : (heldF Y).1.length ≤ 262144 := by have := heldF_le Y; have := h.y.len; have := h.y.m1; omega
 clear h
 unfold RLoad
 rcases new_ways (heldF X) (heldF Y) with ⟨q1, q2, q3⟩ | ⟨q1, q2, q3⟩ | ⟨q1, q2⟩
 · rw [q2]; simp only
   rw [q1] at HN
   rw [q3]
   clear q1 q2 q3
   have HL := Lib.hid hlx
   clear hlx hly
   go_enter Try.func59, Try.ntmps59
   go_upto_region 5 with (first
    | (go_at_call 121; refine HN.out.mono ?_; rintro e w1 ⟨rfl, hb⟩; have H1 := Lib.hid (H.out.below hb (Nat.le_refl _)); have HB1 := Lib.hid hb; clear hb)
    | (go_at_call 123; refine (rslot0_is H1.out.st).mono ?_; rintro e w' ⟨rfl, rfl⟩)
    | (go_at_call 122; refine (rheld_is H1.out.x H1.out.bx).mono ?_; rintro e w2 ⟨A2, c2, rfl, _, hc, hb⟩; have HC2 := Lib.hid hc; have HB2 := Lib.hid (HB1.out.trans (hb.mono HB1.out.size)); clear hb hc))
   obtain ⟨bs, hbs⟩ : ∃ bs, (heldF X).1 = bs := ⟨_, rfl⟩
   rw [hbs] at HC2 HL ⊢
   have HBS := Lib.hid hbs
   clear hbs
   have hbe : Below w2.heap.size w2 (w2.alloc (.cells #[] 5)) := (Below.refl _ _).alloc (Nat.le_refl _) _
   have HBE := Lib.hid (HB2.out.trans (hbe.mono HB2.out.size))
   have HE := Lib.hid (br_empty w2 w.heap.size HB2.out.size)
   have HC3 := Lib.hid (Kd.C_below HC2.out hbe)
   clear hbe
   go_wp2_with (at_builtin; refine BR.append_ev (w := w2.alloc (.cells #[] 5)) (base := w.heap.size) HE.out HC3.out rfl (.tmp 20) (.tmp 21) rfl rfl rfl HBE.out.size (by have := HL.out; simp only [List.length_nil]; omega) ?_; intro v3 w3 hr hb hat; rw [List.nil_append] at hr; obtain ⟨A3, c3, rfl, _, hC4⟩ := BR.len hr; have HC4 := Lib.hid hC4; have HB3 := Lib.hid (HBE.out.trans hb); clear hr hb hat hC4)
   go_ret2
   rw [HBS.out]
   exact ⟨A3, c3, rfl, HC4.out, HB3.out⟩
 · rw [q2]; simp only
   rw [q1] at HN
   rw [q3]
   clear q1 q2 q3
   have HL := Lib.hid hly
   clear hlx hly
   go_enter Try.func59, Try.ntmps59
   go_upto_region 5 with (first
    | (go_at_call 121; refine HN.out.mono ?_; rintro e w1 ⟨rfl, hb⟩; have H1 := Lib.hid (H.out.below hb (Nat.le_refl _)); have HB1 := Lib.hid hb; clear hb)
    | (go_at_call 123; refine (rslot1_is H1.out.st).mono ?_; rintro e w' ⟨rfl, rfl⟩)
    | (go_at_call 122; refine (rheld_is H1.out.y H1.out.by_).mono ?_; rintro e w2 ⟨A2, c2, rfl, _, hc, hb⟩; have HC2 := Lib.hid hc; have HB2 := Lib.hid (HB1.out.trans (hb.mono HB1.out.size)); clear hb hc))
   obtain ⟨bs, hbs⟩ : ∃ bs, (heldF Y).1 = bs := ⟨_, rfl⟩
   rw [hbs] at HC2 HL ⊢
   have HBS := Lib.hid hbs
   clear hbs
   have hbe : Below w2.heap.size w2 (w2.alloc (.cells #[] 5)) := (Below.refl _ _).alloc (Nat.le_refl _) _
   have HBE := Lib.hid (HB2.out.trans (hbe.mono HB2.out.size))
   have HE := Lib.hid (br_empty w2 w.heap.size HB2.out.size)
   have HC3 := Lib.hid (Kd.C_below HC2.out hbe)
   clear hbe
   go_wp2_with (at_builtin; refine BR.append_ev (w := w2.alloc (.cells #[] 5)) (base := w.heap.size) HE.out HC3.out rfl (.tmp 20) (.tmp 21) rfl rfl rfl HBE.out.size (by have := HL.out; simp only [List.length_nil]; omega) ?_; intro v3 w3 hr hb hat; rw [List.nil_append] at hr; obtain ⟨A3, c3, rfl, _, hC4⟩ := BR.len hr; have HC4 := Lib.hid hC4; have HB3 := Lib.hid (HBE.out.trans hb); clear hr hb hat hC4)
   go_ret2
   rw [HBS.out]
   exact ⟨A3, c3, rfl, HC4.out, HB3.out⟩
 · rw [q2]; simp only
   rw [q1] at HN
   clear q1 q2 hlx hly
   go_enter Try.func59, Try.ntmps59
   go_wp2_with (go_at_call 121; refine HN.out.mono ?_; rintro e w1 ⟨rfl, hb⟩; have HB1 := Lib.hid hb; clear hb)
   go_ret2
   first | exact ⟨none, 0, rfl, C_nil _ _, HB1.out⟩ | exact ⟨none, ⟨0, rfl⟩, C_nil _ _, HB1.out⟩
theorem rsave_arg {w : World} (S : Nat) (A0 : Option Addr) (n0 c0 : Nat) (stop keep : Int) (hs : stop < 0 ∨ keep < 0) :
 Calls Try.prog 58 #[.pointer (some ⟨S, 0, none⟩), .slice A0 n0 c0, .int .i64 stop, .int .i64 keep] w fun e w' => e = .returned (.int .i64 1) ∧ w = w' := by
 rcases (show stop < 0 ∨ (¬ stop < 0 ∧ keep < 0) by omega) with q | ⟨q, q2⟩
 all_goals
  clear hs
  go_enter Try.func58, Try.ntmps58
  go_wp2
  go_ret
  exact ⟨rfl, rfl⟩
set_option maxHeartbeats 16000000 in
theorem rsave_go {w : World} {base S BX BY : Nat} {v u : Value} {X Y : List Int} {s s' m : Int} (h : RN w base S BX BY v u X Y s s' m)
 {BT : Nat} {vT : Value} {zs : List Int} {sT : Int} (hT : RefS w base BT vT zs sT m) (ho : (newI (heldF X) (heldF Y) = 0 ∧ BT = BY) ∨ (newI (heldF X) (heldF Y) ≠ 0 ∧ BT = BX)) (A0 : Option Addr) (c0 : Nat) (b : List Int) (hb : Kd.C (Kd.int .u8) w A0 b.length b) (hB : areBytesN b = true) (hl : b.length ≤ 140737488351232)
 (g : Nat) (hg : (newF (heldF X) (heldF Y)).1.2.1 = (g : Int)) (hg1 : g < 18446744073709551616) (stop keep : Int) (hs0 : 0 ≤ stop) (hk0 : 0 ≤ keep) (hk1 : keep ≤ 9223372036854775807) :
 Calls Try.prog 58 #[.pointer (some ⟨S, 0, none⟩), .slice A0 b.length c0, .int .i64 stop, .int .i64 keep] w fun e w' => e = .returned (.int .i64 (svE g b m stop keep)) ∧ ∃ v', DStep w w' BT vT v' ∧ RefS w' base BT v' (svL g b zs sT m stop keep) (svS g b zs sT m stop keep) m := by
 have hbase : base ≤ w.heap.size := by have := hT.at_; have := hT.cells.lt; omega
 have hsp := sv_ways g b zs sT m stop keep hg1 hs0 hk0
 have hfl := svF_len g b hg1
 have hm1 : m ≤ 262144 := hT.m1
 obtain ⟨E, hE⟩ : ∃ E, svE g b m stop keep = E := ⟨_, rfl⟩
 obtain ⟨L, hL⟩ : ∃ L, svL g b zs sT m stop keep = L := ⟨_, rfl⟩
 obtain ⟨Z, hZ⟩ : ∃ Z, svS g b zs sT m stop keep = Z := ⟨_, rfl⟩
 rw [hE, hL, hZ] at hsp ⊢
 clear hE hL hZ
 have hgen := rgen_is h
 rw [hg] at hgen
 have HG := Lib.hid hgen
 have H := Lib.hid h
 have HT := Lib.hid hT
 have HBC := Lib.hid hb
 have hU : IntKind.u64.wrap ((g : Int) + 1) = (((g + 1) % 18446744073709551616 : Nat) : Int) := by rw [IntKind.wrap_u64]; omega
 have hv2 : (vb ((g + 1) % 18446744073709551616)).length ≤ 10 := vb_ten _ (Nat.mod_lt _ (by decide))
 have HU1 : Small64 ((g + 1) % 18446744073709551616) := Nat.mod_lt _ (by decide)
 have hfb := svIn_bytes g b hB
 have hwr : wrapF (svIn g b) = if 65536 < (svIn g b).length then ([], 2) else (svF g b, 0) := rfl
 have hin : vb ((g + 1) % 18446744073709551616) ++ b = svIn g b := rfl
 have hgq : ((g + 1) % 18446744073709551616 = 0 → ((g : Int) == 18446744073709551615) = true) ∧ ((g + 1) % 18446744073709551616 ≠ 0 → ((g : Int) == 18446744073709551615) = false) :=
  ⟨fun q => beq_iff_eq.mpr (by omega), fun q => beq_eq_false_iff_ne.mpr (by omega)⟩
 have HGQ := Lib.hid hgq
 obtain ⟨n, hn1⟩ : ∃ n, (g + 1) % 18446744073709551616 = n := ⟨_, rfl⟩
 rw [hn1] at hsp hU hv2 HU1 hin HGQ
 obtain ⟨vg, hvg⟩ : ∃ vg, vb n = vg := ⟨_, rfl⟩
 rw [hvg] at hv2 hin
 have HVG := Lib.hid hvg
 obtain ⟨in_, hin_⟩ : ∃ x, svIn g b = x := ⟨_, rfl⟩
 obtain ⟨f, hf⟩ : ∃ f, svF g b = f := ⟨_, rfl⟩
 rw [hin_] at hsp hfl hfb hwr hin
 rw [hf] at hsp hfl hwr
 have HIN := Lib.hid hin
 have HFB := Lib.hid hfb
 have HWR := Lib.hid hwr
 have HSP := Lib.hid hsp
 have HFL := Lib.hid hfl
 have HLV : Fits b.length vg.length := ⟨hl, hv2⟩
 have HNEW := Lib.hid (fun (W : World) (hb : Below w.heap.size w W) => rnewest_is (h.below hb (Nat.le_refl _)))
 have HO := Lib.hid ho
 clear h hT hb hB hvg hin hin_ hf hfb hwr hfl hn1 hsp hg1 hl hv2 hgen hg hgq ho
 rcases HSP.out with hs2 | hs2
 · obtain ⟨q1, rfl, rfl, rfl⟩ := hs2
   have HW2 : Hid (wrapF in_ = ([], 2)) := Lib.hid (by rw [HWR.out, if_pos q1])
   clear HSP q1
   go_enter Try.func58, Try.ntmps58
   go_upto_region 4 with (go_at_call 61; refine HG.out.mono ?_; rintro e w1 ⟨rfl, hb⟩; have HB1 := Lib.hid hb; clear hb)
   have HBX := Lib.hid (C_box w1 .u64 (n : Int) 90)
   have hbe : Below w1.heap.size w1 (w1.alloc (.cells #[.int .u64 (n : Int)] 90)) := (Below.refl _ _).alloc (Nat.le_refl _) _
   have HBE := Lib.hid hbe
   have HNil := Lib.hid (C_nil (w1.alloc (.cells #[.int .u64 (n : Int)] 90)) .u8)
   clear hbe
   go_wp2_with (first
    | (go_at_call 120; refine (rput_is none (some ⟨w1.heap.size, 0, none⟩) 0 1 [] [(n : Int)] _ HNil.out HBX.out (u64_one n HU1) (by rw [vbs_one, HVG.out, List.nil_append]; have h7 := HLV; unfold Fits at h7; omega)).mono ?_; rintro e w3 ⟨v3, rfl, hr, hb⟩; rw [vbs_one, HVG.out, List.nil_append] at hr; obtain ⟨A3, k3, rfl, _, _⟩ := BR.len hr; have HR3 := Lib.hid (Kd.R_lower hr HBE.out.size); have HX3 := Lib.hid (HBE.out.trans (hb.mono HBE.out.size)); clear hr hb)
    | (at_builtin; refine BR.append_ev (w := w3) (base := w1.heap.size) HR3.out (Kd.C_below (Kd.C_below HBC.out HB1.out) HX3.out) rfl (.tmp 25) (.tmp 26) rfl rfl rfl HX3.out.size (by have h7 := HLV; unfold Fits at h7; omega) ?_; intro v4 w4 hr hb hat; rw [HIN.out] at hr; obtain ⟨A4, k4, rfl, _, hC4⟩ := BR.len hr; have HC4 := Lib.hid hC4; have HX4 := Lib.hid (HX3.out.trans hb); clear hr hb hat hC4)
    | (go_at_call 119; refine (rwrap_is A4 k4 in_ w4 HC4.out HFB.out).mono ?_; rintro e w5 ⟨v5, rfl, hr, hb⟩; rw [HW2.out] at hr; rw [HW2.out]; obtain ⟨A5, k5, rfl, hk5, hC5⟩ := BR.len hr; have HX5 := Lib.hid (HX4.out.trans (hb.mono HX4.out.size)); have HB5 := Lib.hid (HB1.out.trans (HX5.out.mono HB1.out.size)); clear hr hb hC5))
   go_ret
   exact ⟨rfl, vT, DStep.of_below BT vT HB5.out, HT.out.below HB5.out (Nat.le_refl _)⟩
 obtain ⟨q1, hs2⟩ := hs2
 have HW2 : Hid (wrapF in_ = (f, 0)) := Lib.hid (by rw [HWR.out, if_neg (by omega)])
 have hfm : f.length ≤ 65550 := HFL.out q1
 clear HSP q1
 have HS2 := Lib.hid hs2
 clear hs2
 go_enter Try.func58, Try.ntmps58
 go_upto_region 4 with (go_at_call 61; refine HG.out.mono ?_; rintro e w1 ⟨rfl, hb⟩; have HB1 := Lib.hid hb; clear hb)
 have HBX := Lib.hid (C_box w1 .u64 (n : Int) 90)
 have hbe : Below w1.heap.size w1 (w1.alloc (.cells #[.int .u64 (n : Int)] 90)) := (Below.refl _ _).alloc (Nat.le_refl _) _
 have HBE := Lib.hid hbe
 have HNil := Lib.hid (C_nil (w1.alloc (.cells #[.int .u64 (n : Int)] 90)) .u8)
 clear hbe
 go_upto_region 7 with (first
  | (go_at_call 120; refine (rput_is none (some ⟨w1.heap.size, 0, none⟩) 0 1 [] [(n : Int)] _ HNil.out HBX.out (u64_one n HU1) (by rw [vbs_one, HVG.out, List.nil_append]; have h7 := HLV; unfold Fits at h7; omega)).mono ?_; rintro e w3 ⟨v3, rfl, hr, hb⟩; rw [vbs_one, HVG.out, List.nil_append] at hr; obtain ⟨A3, k3, rfl, _, _⟩ := BR.len hr; have HR3 := Lib.hid (Kd.R_lower hr HBE.out.size); have HX3 := Lib.hid (HBE.out.trans (hb.mono HBE.out.size)); clear hr hb)
  | (at_builtin; refine BR.append_ev (w := w3) (base := w1.heap.size) HR3.out (Kd.C_below (Kd.C_below HBC.out HB1.out) HX3.out) rfl (.tmp 25) (.tmp 26) rfl rfl rfl HX3.out.size (by have h7 := HLV; unfold Fits at h7; omega) ?_; intro v4 w4 hr hb hat; rw [HIN.out] at hr; obtain ⟨A4, k4, rfl, _, hC4⟩ := BR.len hr; have HC4 := Lib.hid hC4; have HX4 := Lib.hid (HX3.out.trans hb); clear hr hb hat hC4)
  | (go_at_call 119; refine (rwrap_is A4 k4 in_ w4 HC4.out HFB.out).mono ?_; rintro e w5 ⟨v5, rfl, hr, hb⟩; rw [HW2.out] at hr; rw [HW2.out]; have HR5 := Lib.hid hr; obtain ⟨A5, k5, rfl, hk5, hC5⟩ := BR.len hr; have HC5 := Lib.hid hC5; have HZ4 := Lib.hid (Nat.le_trans HB1.out.size HX4.out.size); have HX5 := Lib.hid (HX4.out.trans (hb.mono HX4.out.size)); have HB5 := Lib.hid (HB1.out.trans (HX5.out.mono HB1.out.size)); clear hr hb hC5))
 clear HBX HBE HNil HR3 HX3 HC4 HX4
 have z0 := (H.out.below HB5.out (Nat.le_refl _)).st.c0
 have HBT : Hid (BT < w.heap.size ∧ w.heap.size ≤ w5.heap.size ∧ ∀ k, vT.ownBlock = some k → k < w.heap.size) := Lib.hid ⟨HT.out.cells.lt, HB5.out.size, fun k hk => (HT.out.row.block hk).2.1⟩
 have HA5 : Hid (∀ ad, A5 = some ad → w.heap.size ≤ ad.block ∧ ad.block < w5.heap.size) := Lib.hid fun ad e => by
  have e2 : Value.ownBlock (.slice A5 f.length k5) = some ad.block := by rw [e]; rfl
  exact ⟨Nat.le_trans HZ4.out (BR.base HR5.out e2), own_lt (Kd.own_of_R HR5.out) _ e2⟩
 obtain ⟨ni, hni⟩ : ∃ ni, newI (heldF X) (heldF Y) = ni := ⟨_, rfl⟩
 rw [hni] at HNEW HO
 clear hni
 have ho := HO.out
 clear HO
 have hcase : (ni == 0) = true ∨ (ni == 0) = false := by cases ni == 0 <;> simp
 rcases ho with ⟨rfl, rfl⟩ | ⟨hne, rfl⟩
 · clear hcase
   have z1 := (H.out.below HB5.out (Nat.le_refl _)).st.c1
   have hk1' : ∀ W, Below w5.heap.size w5 W → W.cell? ⟨S, 1, none⟩ = some (.pointer (some ⟨BT, 0, none⟩)) := fun W hb => (H.out.below (HB5.out.trans (hb.mono HB5.out.size)) (Nat.le_refl _)).st.c1
   have HK1 := Lib.hid hk1'
   clear hk1' z1
   go_upto_region 10 with (go_at_call 121; refine (HNEW.out _ HB5.out).mono ?_; rintro e w6 ⟨rfl, hb⟩; have z1 := HK1.out _ hb; have HB56 := Lib.hid hb; have HB6 := Lib.hid (HB5.out.trans (hb.mono HB5.out.size)); clear hb)
   have HT6 := Lib.hid (HT.out.below HB6.out (Nat.le_refl _))
   have t2 := HT6.out.cells.c2
   have HC6 := Lib.hid (Kd.C_below HC5.out HB56.out)
   have hmv : ∀ wr v', DStep w6 wr BT vT v' → Kd.C (Kd.int .u8) wr A5 f.length f := fun wr v' hd => by
    obtain ⟨q1, q2, q3⟩ := HBT.out
    have q5 := HB56.out.size
    refine C_moveK HC6.out fun ad e => ?_
    obtain ⟨r1, r2⟩ := HA5.out ad e
    exact hd.block _ (by omega) (by omega) (fun e => by have := q3 _ e.symm; omega)
   have HMV := Lib.hid hmv
   have HD0 := Lib.hid (DStep.of_below BT vT HB6.out)
   clear hmv
   rcases HS2.out with ⟨q, rfl, rfl, rfl⟩ | ⟨⟨q1, q2⟩, rfl, q3⟩
   · rcases q with q | ⟨q1, q2⟩
     · have hg0 := HGQ.out.1 q
       clear q
       go_wp2_with (fail)
       go_ret
       exact ⟨rfl, vT, HD0.out, HT6.out⟩
     · have hg0 := HGQ.out.2 q1
       clear q1
       go_wp2_with (fail)
       go_ret
       exact ⟨rfl, vT, HD0.out, HT6.out⟩
   · have hg0 := HGQ.out.2 q1
     have HQ3 := Lib.hid q3
     have HQ2 := Lib.hid q2
     clear q3 q1
     rcases (show stop = 0 ∨ stop = 1 ∨ stop = 2 ∨ 3 ≤ stop by omega) with rfl | rfl | rfl | h3
     · go_wp2_with (go_at_call 34; refine (refCrash_any HT6.out keep hk1).mono ?_; rintro e w9 ⟨rfl, v9, hd, hs⟩; have HD9 := Lib.hid hd; have HS9 := Lib.hid (HD0.out.trans hs); clear hd hs)
       go_ret
       rcases HQ3.out with ⟨_, rfl, rfl⟩ | ⟨h3, _, _⟩
       · exact ⟨rfl, v9, HS9.out, HD9.out⟩
       · omega
     · go_wp2_with (first
        | (go_at_call 36; refine (refCut_is HT6.out 0 (Nat.zero_le _)).mono ?_; rintro e w7 ⟨rfl, v7, hd, hs⟩; rw [List.take_zero] at hd; have HD7 := Lib.hid hd; have HS7 := Lib.hid hs; clear hd hs)
        | (go_at_call 34; refine (refCrash_any HD7.out keep hk1).mono ?_; rintro e w9 ⟨rfl, v9, hd, hs⟩; have HD9 := Lib.hid hd; have HS9 := Lib.hid (HD0.out.trans (HS7.out.trans hs)); clear hd hs))
       go_ret
       rcases HQ3.out with ⟨_, rfl, rfl⟩ | ⟨h3, _, _⟩
       · exact ⟨rfl, v9, HS9.out, HD9.out⟩
       · omega
     · go_wp2_with (first
        | (go_at_call 36; refine (refCut_is HT6.out 0 (Nat.zero_le _)).mono ?_; rintro e w7 ⟨rfl, v7, hd, hs⟩; rw [List.take_zero] at hd; have HD7 := Lib.hid hd; have HS7 := Lib.hid hs; clear hd hs)
        | (go_at_call 30; refine (refAppend_is HD7.out A5 k5 (HMV.out _ _ HS7.out) (by have := HQ2.out; simp only [List.length_nil]; omega)).mono ?_; rintro e w8 ⟨rfl, v8, hd, hs⟩; rw [List.nil_append] at hd; have HD8 := Lib.hid hd; have HS8 := Lib.hid (HS7.out.trans hs); clear hd hs)
        | (go_at_call 34; refine (refCrash_any HD8.out keep hk1).mono ?_; rintro e w9 ⟨rfl, v9, hd, hs⟩; have HD9 := Lib.hid hd; have HS9 := Lib.hid (HD0.out.trans (HS8.out.trans hs)); clear hd hs))
       go_ret
       rcases HQ3.out with ⟨_, rfl, rfl⟩ | ⟨h3, _, _⟩
       · exact ⟨rfl, v9, HS9.out, HD9.out⟩
       · omega
     · go_wp2_with (first
        | (go_at_call 36; refine (refCut_is HT6.out 0 (Nat.zero_le _)).mono ?_; rintro e w7 ⟨rfl, v7, hd, hs⟩; rw [List.take_zero] at hd; have HD7 := Lib.hid hd; have HS7 := Lib.hid hs; clear hd hs)
        | (go_at_call 30; refine (refAppend_is HD7.out A5 k5 (HMV.out _ _ HS7.out) (by have := HQ2.out; simp only [List.length_nil]; omega)).mono ?_; rintro e w8 ⟨rfl, v8, hd, hs⟩; rw [List.nil_append] at hd; have HD8 := Lib.hid hd; have HS8 := Lib.hid (HS7.out.trans hs); clear hd hs)
        | (go_at_call 31; refine (refSync_is HD8.out).mono ?_; rintro e w9 ⟨rfl, hd, hs⟩; have HD9 := Lib.hid hd; have HS9 := Lib.hid (HD0.out.trans (HS8.out.trans hs)); clear hd hs))
       go_ret
       rcases HQ3.out with ⟨h4, _, _⟩ | ⟨_, rfl, rfl⟩
       · omega
       · exact ⟨rfl, v8, HS9.out, HD9.out⟩
 · have hnb : (ni == 0) = false := beq_eq_false_iff_ne.mpr hne
   clear hcase hne
   go_upto_region 10 with (go_at_call 121; refine (HNEW.out _ HB5.out).mono ?_; rintro e w6 ⟨rfl, hb⟩; have HB56 := Lib.hid hb; have HB6 := Lib.hid (HB5.out.trans (hb.mono HB5.out.size)); clear hb)
   have HT6 := Lib.hid (HT.out.below HB6.out (Nat.le_refl _))
   have t2 := HT6.out.cells.c2
   have HC6 := Lib.hid (Kd.C_below HC5.out HB56.out)
   have hmv : ∀ wr v', DStep w6 wr BT vT v' → Kd.C (Kd.int .u8) wr A5 f.length f := fun wr v' hd => by
    obtain ⟨q1, q2, q3⟩ := HBT.out
    have q5 := HB56.out.size
    refine C_moveK HC6.out fun ad e => ?_
    obtain ⟨r1, r2⟩ := HA5.out ad e
    exact hd.block _ (by omega) (by omega) (fun e => by have := q3 _ e.symm; omega)
   have HMV := Lib.hid hmv
   have HD0 := Lib.hid (DStep.of_below BT vT HB6.out)
   clear hmv
   rcases HS2.out with ⟨q, rfl, rfl, rfl⟩ | ⟨⟨q1, q2⟩, rfl, q3⟩
   · rcases q with q | ⟨q1, q2⟩
     · have hg0 := HGQ.out.1 q
       clear q
       go_wp2_with (fail)
       go_ret
       exact ⟨rfl, vT, HD0.out, HT6.out⟩
     · have hg0 := HGQ.out.2 q1
       clear q1
       go_wp2_with (fail)
       go_ret
       exact ⟨rfl, vT, HD0.out, HT6.out⟩
   · have hg0 := HGQ.out.2 q1
     have HQ3 := Lib.hid q3
     have HQ2 := Lib.hid q2
     clear q3 q1
     rcases (show stop = 0 ∨ stop = 1 ∨ stop = 2 ∨ 3 ≤ stop by omega) with rfl | rfl | rfl | h3
     · go_wp2_with (go_at_call 34; refine (refCrash_any HT6.out keep hk1).mono ?_; rintro e w9 ⟨rfl, v9, hd, hs⟩; have HD9 := Lib.hid hd; have HS9 := Lib.hid (HD0.out.trans hs); clear hd hs)
       go_ret
       rcases HQ3.out with ⟨_, rfl, rfl⟩ | ⟨h3, _, _⟩
       · exact ⟨rfl, v9, HS9.out, HD9.out⟩
       · omega
     · go_wp2_with (first
        | (go_at_call 36; refine (refCut_is HT6.out 0 (Nat.zero_le _)).mono ?_; rintro e w7 ⟨rfl, v7, hd, hs⟩; rw [List.take_zero] at hd; have HD7 := Lib.hid hd; have HS7 := Lib.hid hs; clear hd hs)
        | (go_at_call 34; refine (refCrash_any HD7.out keep hk1).mono ?_; rintro e w9 ⟨rfl, v9, hd, hs⟩; have HD9 := Lib.hid hd; have HS9 := Lib.hid (HD0.out.trans (HS7.out.trans hs)); clear hd hs))
       go_ret
       rcases HQ3.out with ⟨_, rfl, rfl⟩ | ⟨h3, _, _⟩
       · exact ⟨rfl, v9, HS9.out, HD9.out⟩
       · omega
     · go_wp2_with (first
        | (go_at_call 36; refine (refCut_is HT6.out 0 (Nat.zero_le _)).mono ?_; rintro e w7 ⟨rfl, v7, hd, hs⟩; rw [List.take_zero] at hd; have HD7 := Lib.hid hd; have HS7 := Lib.hid hs; clear hd hs)
        | (go_at_call 30; refine (refAppend_is HD7.out A5 k5 (HMV.out _ _ HS7.out) (by have := HQ2.out; simp only [List.length_nil]; omega)).mono ?_; rintro e w8 ⟨rfl, v8, hd, hs⟩; rw [List.nil_append] at hd; have HD8 := Lib.hid hd; have HS8 := Lib.hid (HS7.out.trans hs); clear hd hs)
        | (go_at_call 34; refine (refCrash_any HD8.out keep hk1).mono ?_; rintro e w9 ⟨rfl, v9, hd, hs⟩; have HD9 := Lib.hid hd; have HS9 := Lib.hid (HD0.out.trans (HS8.out.trans hs)); clear hd hs))
       go_ret
       rcases HQ3.out with ⟨_, rfl, rfl⟩ | ⟨h3, _, _⟩
       · exact ⟨rfl, v9, HS9.out, HD9.out⟩
       · omega
     · go_wp2_with (first
        | (go_at_call 36; refine (refCut_is HT6.out 0 (Nat.zero_le _)).mono ?_; rintro e w7 ⟨rfl, v7, hd, hs⟩; rw [List.take_zero] at hd; have HD7 := Lib.hid hd; have HS7 := Lib.hid hs; clear hd hs)
        | (go_at_call 30; refine (refAppend_is HD7.out A5 k5 (HMV.out _ _ HS7.out) (by have := HQ2.out; simp only [List.length_nil]; omega)).mono ?_; rintro e w8 ⟨rfl, v8, hd, hs⟩; rw [List.nil_append] at hd; have HD8 := Lib.hid hd; have HS8 := Lib.hid (HS7.out.trans hs); clear hd hs)
        | (go_at_call 31; refine (refSync_is HD8.out).mono ?_; rintro e w9 ⟨rfl, hd, hs⟩; have HD9 := Lib.hid hd; have HS9 := Lib.hid (HD0.out.trans (HS8.out.trans hs)); clear hd hs))
       go_ret
       rcases HQ3.out with ⟨h4, _, _⟩ | ⟨_, rfl, rfl⟩
       · omega
       · exact ⟨rfl, v8, HS9.out, HD9.out⟩
theorem rsave_is {w : World} {base S BX BY : Nat} {v u : Value} {X Y : List Int} {s s' m : Int} (h : RN w base S BX BY v u X Y s s' m)
 {BT : Nat} {vT : Value} {zs : List Int} {sT : Int} (hT : RefS w base BT vT zs sT m) (ho : (newI (heldF X) (heldF Y) = 0 ∧ BT = BY) ∨ (newI (heldF X) (heldF Y) ≠ 0 ∧ BT = BX)) (A0 : Option Addr) (c0 : Nat) (b : List Int) (hb : Kd.C (Kd.int .u8) w A0 b.length b) (hB : areBytesN b = true) (hl : b.length ≤ 140737488351232)
 (g : Nat) (hg : (newF (heldF X) (heldF Y)).1.2.1 = (g : Int)) (hg1 : g < 18446744073709551616) (stop keep : Int) (hk1 : keep ≤ 9223372036854775807) :
 Calls Try.prog 58 #[.pointer (some ⟨S, 0, none⟩), .slice A0 b.length c0, .int .i64 stop, .int .i64 keep] w fun e w' => e = .returned (.int .i64 (svE g b m stop keep)) ∧ ∃ v', DStep w w' BT vT v' ∧ RefS w' base BT v' (svL g b zs sT m stop keep) (svS g b zs sT m stop keep) m := by
 by_cases hs : stop < 0 ∨ keep < 0
 · obtain ⟨h1, h2, h3⟩ := sv_arg g b zs sT m stop keep hs
   rw [h1, h2, h3]
   refine (rsave_arg S A0 b.length c0 stop keep hs).mono ?_
   rintro e w' ⟨rfl, rfl⟩
   exact ⟨rfl, vT, DStep.refl _ _ _, hT⟩
 · exact rsave_go h hT ho A0 c0 b hb hB hl g hg hg1 stop keep (by omega) (by omega) hk1
end Go.Proofs.Ytmbnjgnmblgjoaa.Man
end
section
namespace Go.Proofs.Ytmbnjgnmblgjoaa.Man
open Go.RowKit Go.Shelf Go.Proofs.YtmbnjgnmblgjoaaW.PrintWords Go.Proofs.YtmbnjgnmblgjoaaW.PrintLast Go.Proofs.YtmbnjgnmblgjoaaW.PrintMore
set_option linter.unusedVariables false
set_option linter.unusedSimpArgs false
set_option maxRecDepth 100000
section
variable {w w1 w2 : World} {base S BA BB R BX BY : Nat} {vA vB uX uY v' u' : Value} {a b a' b' : List Int} {sa sb m t : Int}
theorem StoreS.stepR {B : Nat} {xs : List Int} {s : Int} {v : Value} (k : StoreS w S BA BB) (hd : RefS w base B v xs s m) (st : DStep w w1 B v v') : StoreS w1 S BA BB := by
 refine k.move (st.block S k.lt (fun e => ?_) (fun e => ?_))
 · have h1 : w.heap[S]? = _ := k
   have h2 : w.heap[B]? = _ := hd.cells
   rw [e, h2] at h1
   cases h1
 · obtain ⟨_, _, cur, hc⟩ := hd.row.block e.symm
   have h1 : w.heap[S]? = _ := k
   rw [hc] at h1
   cases h1
theorem RStore.step {B : Nat} {xs : List Int} {s : Int} {v : Value} (k : RStore w S BA BB) (hd : DiskS w base B v xs s m) (st : DStep w w1 B v v') : RStore w1 S BA BB := by
 refine k.move (st.block S k.lt (fun e => ?_) (fun e => ?_))
 · have h1 : w.heap[S]? = _ := k
   have h2 : w.heap[B]? = _ := hd.cells
   rw [e, h2] at h1
   cases h1
 · obtain ⟨_, _, cur, hc⟩ := hd.row.block e.symm
   have h1 : w.heap[S]? = _ := k
   rw [hc] at h1
   cases h1
theorem RStore.stepR {B : Nat} {xs : List Int} {s : Int} {v : Value} (k : RStore w S BA BB) (hd : RefS w base B v xs s m) (st : DStep w w1 B v v') : RStore w1 S BA BB := by
 refine k.move (st.block S k.lt (fun e => ?_) (fun e => ?_))
 · have h1 : w.heap[S]? = _ := k
   have h2 : w.heap[B]? = _ := hd.cells
   rw [e, h2] at h1
   cases h1
 · obtain ⟨_, _, cur, hc⟩ := hd.row.block e.symm
   have h1 : w.heap[S]? = _ := k
   rw [hc] at h1
   cases h1
structure Four (w : World) (base BA BB BX BY : Nat) (vA vB uX uY : Value) (a b : List Int) (sa sb m : Int) : Prop where
 A : DiskS w base BA vA a sa m
 B : DiskS w base BB vB b sb m
 X : RefS w base BX uX a sa m
 Y : RefS w base BY uY b sb m
 nAB : BA ≠ BB
 nAX : BA ≠ BX
 nAY : BA ≠ BY
 nBX : BB ≠ BX
 nBY : BB ≠ BY
 nXY : BX ≠ BY
 pAB : Apart vA vB
 pAX : Apart vA uX
 pAY : Apart vA uY
 pBX : Apart vB uX
 pBY : Apart vB uY
 pXY : Apart uX uY
theorem Four.below {n : Nat} (h : Four w base BA BB BX BY vA vB uX uY a b sa sb m) (hb : Below n w w1) (hn : w.heap.size ≤ n) : Four w1 base BA BB BX BY vA vB uX uY a b sa sb m :=
 { h with A := h.A.below hb hn, B := h.B.below hb hn, X := h.X.below hb hn, Y := h.Y.below hb hn }
theorem Four.midA (h : Four w base BA BB BX BY vA vB uX uY a b sa sb m) (st : DStep w w1 BA vA v') : DiskS w1 base BB vB b sb m ∧ RefS w1 base BX uX a sa m ∧ RefS w1 base BY uY b sb m ∧ Apart v' vB ∧ Apart v' uX ∧ Apart v' uY ∧ Below base w w1 :=
 ⟨h.B.other h.A st h.nAB.symm (fun b hb => h.pAB.symm b hb), h.X.ref h.A st h.nAX.symm h.pAX, h.Y.ref h.A st h.nAY.symm h.pAY, st.apart h.pAB h.B.row, st.apart h.pAX h.X.row, st.apart h.pAY h.Y.row, st.below h.A⟩
theorem Four.midB (h : Four w base BA BB BX BY vA vB uX uY a b sa sb m) (st : DStep w w1 BB vB v') : DiskS w1 base BA vA a sa m ∧ RefS w1 base BX uX a sa m ∧ RefS w1 base BY uY b sb m ∧ Apart vA v' ∧ Apart v' uX ∧ Apart v' uY ∧ Below base w w1 :=
 ⟨h.A.other h.B st h.nAB (fun b hb => h.pAB b hb), h.X.ref h.B st h.nBX.symm h.pBX, h.Y.ref h.B st h.nBY.symm h.pBY, (st.apart h.pAB.symm h.A.row).symm, st.apart h.pBX h.X.row, st.apart h.pBY h.Y.row, st.below h.B⟩
theorem Four.actedA (h : Four w base BA BB BX BY vA vB uX uY a b sa sb m) (hd : DiskS w1 base BA v' a' t m) (st : DStep w w1 BA vA v') (hr : RefS w2 base BX u' a' t m) (st2 : DStep w1 w2 BX uX u') :
 Four w2 base BA BB BX BY v' vB u' uY a' b t sb m ∧ Below base w w2 := by
 obtain ⟨hB, hX, hY, p1, p2, p3, hb⟩ := h.midA st
 exact ⟨⟨hd.ref hX st2 h.nAX p2, hB.ref hX st2 h.nBX h.pBX, hr, hY.other hX st2 h.nXY.symm h.pXY.symm, h.nAB, h.nAX, h.nAY, h.nBX, h.nBY, h.nXY, p1, (st2.apart p2.symm hd.row).symm, p3, (st2.apart h.pBX.symm hB.row).symm, h.pBY, st2.apart h.pXY hY.row⟩, hb.trans (st2.belowR hX)⟩
theorem Four.actedB (h : Four w base BA BB BX BY vA vB uX uY a b sa sb m) (hd : DiskS w1 base BB v' b' t m) (st : DStep w w1 BB vB v') (hr : RefS w2 base BY u' b' t m) (st2 : DStep w1 w2 BY uY u') :
 Four w2 base BA BB BX BY vA v' uX u' a b' sa t m ∧ Below base w w2 := by
 obtain ⟨hA, hX, hY, p1, p2, p3, hb⟩ := h.midB st
 exact ⟨⟨hA.ref hY st2 h.nAY h.pAY, hd.ref hY st2 h.nBY p3, hX.other hY st2 h.nXY h.pXY, hr, h.nAB, h.nAX, h.nAY, h.nBX, h.nBY, h.nXY, p1, h.pAX, (st2.apart h.pAY.symm hA.row).symm, p2, (st2.apart p3.symm hd.row).symm, (st2.apart h.pXY.symm hX.row).symm⟩, hb.trans (st2.belowR hY)⟩
theorem Four.sameA (h : Four w base BA BB BX BY vA vB uX uY a b sa sb m) (hd : DiskS w1 base BA v' a sa m) (st : DStep w w1 BA vA v') : Four w1 base BA BB BX BY v' vB uX uY a b sa sb m ∧ Below base w w1 := by
 obtain ⟨hB, hX, hY, p1, p2, p3, hb⟩ := h.midA st
 exact ⟨{ h with A := hd, B := hB, X := hX, Y := hY, pAB := p1, pAX := p2, pAY := p3 }, hb⟩
theorem Four.sameB (h : Four w base BA BB BX BY vA vB uX uY a b sa sb m) (hd : DiskS w1 base BB v' b sb m) (st : DStep w w1 BB vB v') : Four w1 base BA BB BX BY vA v' uX uY a b sa sb m ∧ Below base w w1 := by
 obtain ⟨hA, hX, hY, p1, p2, p3, hb⟩ := h.midB st
 exact ⟨{ h with A := hA, B := hd, X := hX, Y := hY, pAB := p1, pBX := p2, pBY := p3 }, hb⟩
structure SP (w : World) (base S BA BB R BX BY : Nat) (vA vB uX uY : Value) (a b : List Int) (sa sb m : Int) : Prop where
 st : StoreS w S BA BB
 rt : RStore w R BX BY
 f : Four w base BA BB BX BY vA vB uX uY a b sa sb m
 ba : areBytesN a = true
 bb : areBytesN b = true
theorem SP.below {n : Nat} (h : SP w base S BA BB R BX BY vA vB uX uY a b sa sb m) (hb : Below n w w1) (hn : w.heap.size ≤ n) : SP w1 base S BA BB R BX BY vA vB uX uY a b sa sb m :=
 { h with st := h.st.below hb (by have := h.st.lt; omega), rt := h.rt.below hb (by have := h.rt.lt; omega), f := h.f.below hb hn }
theorem SP.rn (h : SP w base S BA BB R BX BY vA vB uX uY a b sa sb m) : RN w base R BX BY uX uY a b sa sb m := ⟨h.rt, h.f.X, h.f.Y, h.ba, h.bb⟩
theorem SP.newest (h : SP w base S BA BB R BX BY vA vB uX uY a b sa sb m) : Calls Try.prog 114 #[.pointer (some ⟨S, 0, none⟩)] w (NewPost w (newF (heldF a) (heldF b)).1 (newF (heldF a) (heldF b)).2) :=
 newest_is h.st h.f.A h.f.B h.ba h.bb
theorem save_pair (h : SP w base S BA BB R BX BY vA vB uX uY a b sa sb m) (A0 : Option Addr) (c0 : Nat) (p : List Int) (hp : Kd.C (Kd.int .u8) w A0 p.length p) (hB : areBytesN p = true) (hl : p.length ≤ 140737488351232) (stop keep : Int) (hs1 : stop < 9223372036854775808) (hk1 : keep ≤ 9223372036854775807) :
 ∃ e : Int, Calls Try.prog 55 #[.pointer (some ⟨S, 0, none⟩), .slice A0 p.length c0, .int .i64 stop, .int .i64 keep] w fun r w1 => r = .returned (.int .i64 e) ∧ Below base w w1 ∧
  (Kd.C (Kd.int .u8) w1 A0 p.length p → Calls Try.prog 58 #[.pointer (some ⟨R, 0, none⟩), .slice A0 p.length c0, .int .i64 stop, .int .i64 keep] w1 fun r w2 => r = .returned (.int .i64 e) ∧ Below base w w2 ∧
   ∃ vA vB uX uY a b sa sb, SP w2 base S BA BB R BX BY vA vB uX uY a b sa sb m) := by
 obtain ⟨g, hg, hg1⟩ := newG a b h.ba h.bb
 have hn := h.newest
 rcases new_ways (heldF a) (heldF b) with ⟨q1, q2, q3⟩ | q
 · have ho : (newF (heldF a) (heldF b)).2 = 1 := by rw [q2]
   rw [ho] at hn
   refine ⟨svE g p m stop keep, (save_any h.st _ 1 hn h.f.B (.inr ⟨rfl, rfl⟩) A0 c0 p hp hB hl g hg hg1 stop keep hs1 hk1).mono ?_⟩
   rintro r w1 ⟨rfl, v', hs, hd⟩
   obtain ⟨hA, hX, hY, p1, p2, p3, hb⟩ := h.f.midB hs
   refine ⟨rfl, hb, fun hp1 => (rsave_is ⟨h.rt.step h.f.B hs, hX, hY, h.ba, h.bb⟩ hY (.inl ⟨q1, rfl⟩) A0 c0 p hp1 hB hl g hg hg1 stop keep hk1).mono ?_⟩
   rintro r w2 ⟨rfl, u', hs2, hd2⟩
   obtain ⟨hf, hb2⟩ := h.f.actedB hd hs hd2 hs2
   exact ⟨rfl, hb2, _, _, _, _, _, _, _, _, (h.st.step h.f.B hs).stepR hY hs2, (h.rt.step h.f.B hs).stepR hY hs2, hf, h.ba, svL_bytes _ _ _ _ _ _ _ h.bb hB⟩
 · have ho : (newF (heldF a) (heldF b)).2 = 0 := by rcases q with ⟨_, q, _⟩ | ⟨_, q⟩ <;> rw [q]
   have hne : newI (heldF a) (heldF b) ≠ 0 := by rcases q with ⟨q, _⟩ | ⟨q, _⟩ <;> rw [q] <;> decide
   rw [ho] at hn
   refine ⟨svE g p m stop keep, (save_any h.st _ 0 hn h.f.A (.inl ⟨rfl, rfl⟩) A0 c0 p hp hB hl g hg hg1 stop keep hs1 hk1).mono ?_⟩
   rintro r w1 ⟨rfl, v', hs, hd⟩
   obtain ⟨hB', hX, hY, p1, p2, p3, hb⟩ := h.f.midA hs
   refine ⟨rfl, hb, fun hp1 => (rsave_is ⟨h.rt.step h.f.A hs, hX, hY, h.ba, h.bb⟩ hX (.inr ⟨hne, rfl⟩) A0 c0 p hp1 hB hl g hg hg1 stop keep hk1).mono ?_⟩
   rintro r w2 ⟨rfl, u', hs2, hd2⟩
   obtain ⟨hf, hb2⟩ := h.f.actedA hd hs hd2 hs2
   exact ⟨rfl, hb2, _, _, _, _, _, _, _, _, (h.st.step h.f.A hs).stepR hX hs2, (h.rt.step h.f.A hs).stepR hX hs2, hf, svL_bytes _ _ _ _ _ _ _ h.ba hB, h.bb⟩
end
end Go.Proofs.Ytmbnjgnmblgjoaa.Man
end
section
namespace Go.Proofs.Ytmbnjgnmblgjoaa.Man
open Go.RowKit Go.Shelf Go.Proofs.YtmbnjgnmblgjoaaW.PrintWords Go.Proofs.YtmbnjgnmblgjoaaW.PrintLast Go.Proofs.YtmbnjgnmblgjoaaW.PrintMore
set_option linter.unusedVariables false
set_option linter.unusedSimpArgs false
set_option maxRecDepth 100000
set_option maxHeartbeats 4000000 in
theorem snapNew_four {w : World} {base BA BB BX BY : Nat} {vA vB uX uY : Value} {a b : List Int} {sa sb m : Int} (hF : Four w base BA BB BX BY vA vB uX uY a b sa sb m) :
 Calls Try.prog 54 #[.pointer (some ⟨BA, 0, none⟩), .pointer (some ⟨BB, 0, none⟩)] w fun e w' => ∃ S, e = .returned (.tuple #[.pointer (some ⟨S, 0, none⟩), .int .i64 0]) ∧ StoreS w' S BA BB ∧ (∃ vA vB, Four w' base BA BB BX BY vA vB uX uY a b sa sb m) ∧ Below base w w' := by
 have hbase : base ≤ w.heap.size := by have := hF.A.at_; have := hF.A.cells.lt; omega
 have HXY : Hid (∃ vA vB, Four w base BA BB BX BY vA vB uX uY a b sa sb m) := Lib.hid ⟨_, _, hF⟩
 clear hF
 go_enter Try.func54, Try.ntmps54
 go_wp2_with (fail)
 go_loopg [12] 3 (fun gg s12 wr => ∃ k : Nat, k ≤ 2 ∧ s12 = .int .i64 k ∧ gg = 3 - k ∧ Hid (∃ vA vB, Four wr base BA BB BX BY vA vB uX uY a b sa sb m) ∧ Hid (Below base w wr))
 case atStart => exact ⟨0, by omega, rfl, rfl, HXY, Lib.hid (Below.refl _ _)⟩
 case round =>
  clear HXY
  obtain ⟨k, hk, rfl, hgg, HP, HB⟩ := hrel
  obtain ⟨v, u, HD⟩ : ∃ v u, Hid (Four wr base BA BB BX BY v u uX uY a b sa sb m) := by
   obtain ⟨v, u, h⟩ := HP.out
   exact ⟨v, u, Lib.hid h⟩
  clear HP
  match k, hk with
  | 0, _ =>
   go_wp2_with (first | (refine index_ev rfl _ _ rfl rfl rfl (idx0 _ _ _) ?_) | (refine index_ev rfl _ _ rfl rfl rfl (idx1 _ _ _) ?_) | (go_at_call 29; refine (app_nil HD.out.A).mono ?_; rintro e w' ⟨rfl, v', hd, hs⟩; have HX := Lib.hid (HD.out.sameA hd hs); clear hd hs))
   go_roundg 2
   case measure => omega
   case rel => exact ⟨1, by omega, rfl, rfl, Lib.hid ⟨v', u, HX.out.1⟩, Lib.hid (HB.out.trans HX.out.2)⟩
  | 1, _ =>
   go_wp2_with (first | (refine index_ev rfl _ _ rfl rfl rfl (idx0 _ _ _) ?_) | (refine index_ev rfl _ _ rfl rfl rfl (idx1 _ _ _) ?_) | (go_at_call 29; refine (app_nil HD.out.B).mono ?_; rintro e w' ⟨rfl, u', hd, hs⟩; have HX := Lib.hid (HD.out.sameB hd hs); clear hd hs))
   go_roundg 1
   case measure => omega
   case rel => exact ⟨2, by omega, rfl, rfl, Lib.hid ⟨v, u', HX.out.1⟩, Lib.hid (HB.out.trans HX.out.2)⟩
  | 2, _ =>
   have heq := disks_ne HD.out.A HD.out.B HD.out.nAB
   go_wp2_with (fail)
   have hbe : Below wr.heap.size wr (wr.alloc (.cells #[.pointer (some ⟨BA, 0, none⟩), .pointer (some ⟨BB, 0, none⟩)] 163)) := (Below.refl _ _).alloc (Nat.le_refl _) _
   go_ret2
   first
    | exact ⟨wr.heap.size, rfl, World.alloc_heap_new wr _, ⟨v, u, HD.out.below hbe (Nat.le_refl _)⟩, HB.out.alloc (by have := HB.out.size; omega) _⟩
    | exact ⟨World.alloc_heap_new wr _, ⟨v, u, HD.out.below hbe (Nat.le_refl _)⟩, HB.out.alloc (by have := HB.out.size; omega) _⟩
theorem sslot0_is {w : World} {S BX BY : Nat} (h : StoreS w S BX BY) : Calls Try.prog 62 #[.pointer (some ⟨S, 0, none⟩), .int .i64 0] w fun e w' => e = .returned (.pointer (some ⟨BX, 0, none⟩)) ∧ w = w' := by
 have c0 := h.c0
 have H := Lib.hid h
 clear h
 go_enter Try.func62, Try.ntmps62
 go_wp2_with (go_at_call 113; refine (snone_is H.out).mono ?_; rintro e w' ⟨rfl, rfl⟩)
 go_ret
 exact ⟨rfl, rfl⟩
theorem sslot1_is {w : World} {S BX BY : Nat} (h : StoreS w S BX BY) : Calls Try.prog 62 #[.pointer (some ⟨S, 0, none⟩), .int .i64 1] w fun e w' => e = .returned (.pointer (some ⟨BY, 0, none⟩)) ∧ w = w' := by
 have c1 := h.c1
 have H := Lib.hid h
 clear h
 go_enter Try.func62, Try.ntmps62
 go_wp2_with (go_at_call 113; refine (snone_is H.out).mono ?_; rintro e w' ⟨rfl, rfl⟩)
 go_ret
 exact ⟨rfl, rfl⟩
theorem sslot2_is {w : World} {S BX BY : Nat} (h : StoreS w S BX BY) : Calls Try.prog 62 #[.pointer (some ⟨S, 0, none⟩), .int .i64 2] w fun e w' => e = .returned (.pointer none) ∧ w = w' := by
 have H := Lib.hid h
 clear h
 go_enter Try.func62, Try.ntmps62
 go_wp2_with (go_at_call 113; refine (snone_is H.out).mono ?_; rintro e w' ⟨rfl, rfl⟩)
 go_ret
 exact ⟨rfl, rfl⟩
end Go.Proofs.Ytmbnjgnmblgjoaa.Man
end
section
namespace Go.Proofs.Ytmbnjgnmblgjoaa.Man
open Go.RowKit Go.Proofs.YtmbnjgnmblgjoaaW.PrintWords Go.Proofs.YtmbnjgnmblgjoaaW.PrintLast Go.Proofs.YtmbnjgnmblgjoaaW.PrintMore
set_option linter.unusedVariables false
set_option linter.unusedSimpArgs false
set_option maxRecDepth 100000
theorem Inv.zero : Inv 0 [] (heldF []) (heldF []) := .inl ⟨rfl, rfl, held_nil, held_nil⟩
set_option maxHeartbeats 8000000 in
theorem awake30_is (w : World) : Calls Try.prog 56 #[] w fun e w' => e = .returned (.bool true) ∧ Below w.heap.size w w' := by
 have hC : ∀ W : World, Kd.C (Kd.int .u8) (W.alloc (.cells #[.int .u8 1] 5)) (some ⟨W.heap.size, 0, none⟩) ([1] : List Int).length [1] := fun W => C_box W .u8 1 _
 have HC := Lib.hid hC
 clear hC
 go_enter Try.func56, Try.ntmps56
 go_upto_region 2 with (go_at_call 26; refine (new_is _ _ w.heap.size (Nat.le_refl _) (by decide) (by decide)).mono ?_; rintro e w1 ⟨rfl, hd, hb⟩; have HD1 := Lib.hid hd; have HB1 := Lib.hid hb; clear hd hb)
 go_upto_region 4 with (first
  | (go_at_call 26; refine (new_is _ _ w.heap.size HB1.out.size (by decide) (by decide)).mono ?_; rintro e w2 ⟨rfl, hd, hb⟩; have HD2 := Lib.hid hd; have HDX := Lib.hid (HD1.out.below hb (Nat.le_refl _)); have HB2 := Lib.hid (HB1.out.trans (hb.mono HB1.out.size)); clear hd hb)
  | (go_at_call 54; refine (snapNew_is HDX.out HD2.out (by have := HD1.out.cells.lt; omega)).mono ?_; rintro e w3 ⟨S, rfl, hs, ⟨v, u, h1, h2, h3⟩, hb⟩; have hbe : Below w3.heap.size w3 (w3.alloc (.cells #[.int .u8 1] 5)) := (Below.refl _ _).alloc (Nat.le_refl _) _; have HB3 := Lib.hid (HB2.out.trans hb); have HN := Lib.hid ((SN.mk hs h1 h2 (by have := HD1.out.cells.lt; omega) h3 rfl rfl).below hbe (Nat.le_refl _)); have HBE := Lib.hid (HB3.out.trans (hbe.mono HB3.out.size)); clear hs h1 h2 h3 hb hbe))
 go_wp2_with (first
  | (go_at_call 55; refine (saveN (i := 0) (old := []) HN.out Inv.zero (by decide) (some ⟨w3.heap.size, 0, none⟩) 1 [1] (HC.out w3) (by decide) (by decide) (by decide) 3 0 (by decide) (by decide) (by decide)).mono ?_; rintro e w4 ⟨rfl, hb, v', u', X', Y', t, t', hsn, _, hI⟩; have HSN := Lib.hid hsn; have HI := Lib.hid (hI (by decide)).2.2; have HB4 := Lib.hid (HBE.out.trans hb); clear hb hsn hI)
  | (go_at_call 60; refine (generation_is HSN.out.st _ _ (newestN HSN.out HI.out)).mono ?_; rintro e w5 ⟨rfl, hb⟩; have HB5 := Lib.hid (HB4.out.trans (hb.mono HB4.out.size)); clear hb))
 go_ret
 exact ⟨rfl, HB5.out⟩
end Go.Proofs.Ytmbnjgnmblgjoaa.Man
end
