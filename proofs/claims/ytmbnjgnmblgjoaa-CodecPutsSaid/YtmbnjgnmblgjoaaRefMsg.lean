/- The reference's message, PutMsg: what they come to. Printed by wip/tools/gen_refmsg.py. -/
import Derived.Test.YtmbnjgnmblgjoaaRefPuts
namespace Go.Proofs.Ytmbnjgnmblgjoaa.Man
open Go.RowKit Go.Proofs.YtmbnjgnmblgjoaaW.PrintWords Go.Proofs.YtmbnjgnmblgjoaaW.PrintLast Go.Proofs.YtmbnjgnmblgjoaaW.PrintMore
set_option linter.unusedVariables false
set_option linter.unusedSimpArgs false
set_option maxRecDepth 100000

set_option maxHeartbeats 8000000 in
theorem rmessage_is (m : MsgL) (A : Option Addr) (c : Nat) (w : World) (hr : Kd.C K.k26 w A m.l.length m.l) (hc : m.l.length ≤ c) :
    Calls Try.prog 111 #[msgV m A c] w fun e w' => e = .returned (.int .i64 (msgE m)) ∧ Below w.heap.size w w' := by
  obtain ⟨k, who, ver, l⟩ := m
  unfold msgV
  simp only at hr hc ⊢
  have HC := Lib.hid hr
  clear hr
  obtain ⟨E, hE⟩ : ∃ E, msgE ⟨k, who, ver, l⟩ = E := ⟨_, rfl⟩
  rw [hE]
  unfold msgE msgBad at hE
  simp only at hE
  obtain ⟨w1, hw1⟩ : ∃ w1, w1 = w.alloc (.cells #[.int .i64 k, .int .i64 who, .int .i64 ver, .slice A l.length c] 71) := ⟨_, rfl⟩
  have hbe : Below w.heap.size w w1 := by rw [hw1]; exact (Below.refl _ _).alloc (Nat.le_refl _) _
  have hM1 : MsgAt w1 w.heap.size k who ver A l.length c := by rw [hw1]; exact World.alloc_heap_new w _
  rw [hw1] at hbe hM1
  have HBE := Lib.hid hbe
  have HM1 := Lib.hid hM1
  clear hbe hM1 hw1

  by_cases h0 : k < 0
  · have t0 : decide (k < 0) = true := decide_eq_true h0
    rw [if_pos (by omega)] at hE
    subst hE
    clear h0
    go_enter Try.func111, Try.ntmps111
    go_wp2
    refine bodyPost_ret (results_tmp rfl _ _ _) rfl ?_
    exact ⟨rfl, HBE.out⟩
  have t0 : decide (k < 0) = false := decide_eq_false h0
  by_cases h1 : 2 < k
  · have t1 : decide (2 < k) = true := decide_eq_true h1
    rw [if_pos (by omega)] at hE
    subst hE
    clear h0 h1
    go_enter Try.func111, Try.ntmps111
    go_wp2
    refine bodyPost_ret (results_tmp rfl _ _ _) rfl ?_
    exact ⟨rfl, HBE.out⟩
  have t1 : decide (2 < k) = false := decide_eq_false h1
  by_cases h2 : who < 0
  · have t2 : decide (who < 0) = true := decide_eq_true h2
    rw [if_pos (by omega)] at hE
    subst hE
    clear h0 h1 h2
    go_enter Try.func111, Try.ntmps111
    go_wp2
    refine bodyPost_ret (results_tmp rfl _ _ _) rfl ?_
    exact ⟨rfl, HBE.out⟩
  have t2 : decide (who < 0) = false := decide_eq_false h2
  by_cases h3 : 4 ≤ who
  · have t3 : decide (4 ≤ who) = true := decide_eq_true h3
    rw [if_pos (by omega)] at hE
    subst hE
    clear h0 h1 h2 h3
    go_enter Try.func111, Try.ntmps111
    go_wp2
    refine bodyPost_ret (results_tmp rfl _ _ _) rfl ?_
    exact ⟨rfl, HBE.out⟩
  have t3 : decide (4 ≤ who) = false := decide_eq_false h3
  by_cases h4 : ver < 0
  · have t4 : decide (ver < 0) = true := decide_eq_true h4
    rw [if_pos (by omega)] at hE
    subst hE
    clear h0 h1 h2 h3 h4
    go_enter Try.func111, Try.ntmps111
    go_wp2
    refine bodyPost_ret (results_tmp rfl _ _ _) rfl ?_
    exact ⟨rfl, HBE.out⟩
  have t4 : decide (ver < 0) = false := decide_eq_false h4
  by_cases h5 : 1024 < ver
  · have t5 : decide (1024 < ver) = true := decide_eq_true h5
    rw [if_pos (by omega)] at hE
    subst hE
    clear h0 h1 h2 h3 h4 h5
    go_enter Try.func111, Try.ntmps111
    go_wp2
    refine bodyPost_ret (results_tmp rfl _ _ _) rfl ?_
    exact ⟨rfl, HBE.out⟩
  have t5 : decide (1024 < ver) = false := decide_eq_false h5
  rw [if_neg (by omega)] at hE
  clear h0 h1 h2 h3 h4 h5
  by_cases h6 : 1024 < l.length
  · rw [if_pos h6] at hE
    subst hE
    go_enter Try.func111, Try.ntmps111
    go_wp2
    refine bodyPost_ret (results_tmp rfl _ _ _) rfl ?_
    exact ⟨rfl, HBE.out⟩
  rw [if_neg h6] at hE
  have HE := Lib.hid hE
  clear hE
  go_enter Try.func111, Try.ntmps111
  go_wp2
  go_loopg [3] l.length (fun g s3 wr => ∃ i : Nat, s3 = .int .i64 i ∧ i ≤ l.length ∧ g = l.length - i ∧ Hid (firstBad (l.drop i) = E) ∧ Hid (Below w.heap.size w wr) ∧ Hid (MsgAt wr w.heap.size k who ver A l.length c))
  case atStart => exact ⟨0, rfl, Nat.zero_le _, rfl, Lib.hid (by rw [List.drop_zero]; exact HE.out), HBE, HM1⟩
  case round =>
    clear HE HBE HM1 t0 t1 t2 t3 t4 t5
    obtain ⟨i, rfl, hi, hg, HE, HB, HM⟩ := hrel
    have q3 := HM.out.c.2.2.2
    by_cases hlt : i < l.length
    · have hCi := Kd.C_below HC.out HB.out
      obtain ⟨ad, A8, c8, ea, a0, a1, a2, a3, a4, a5, a6, a7, a8, a9, l8, g8⟩ := K.at_T26 hCi (i : Int) (by omega) (by omega)
      subst ea
      have hrd : K.rd_T26 l (i : Int) = l[i] := by unfold K.rd_T26; rw [Int.toNat_natCast, List.getD_eq_getElem?_getD, List.getElem?_eq_getElem hlt]; rfl
      have hdr : l.drop i = l[i] :: l.drop (i + 1) := List.drop_eq_getElem_cons hlt
      have hE := HE.out
      rw [hdr, firstBad] at hE
      rw [hrd] at a0 a1 a2 a3 a4 a5 a6 a7 a8 a9 l8 g8
      rw [Int.toNat_natCast] at a0 a1 a2 a3 a4 a5 a6 a7 a8 a9
      generalize l[i] = x at hE a0 a1 a2 a3 a4 a5 a6 a7 a8 a9 l8 g8
      clear hrd hdr HE hCi
      have HD := Lib.hid (rcheck_is x A8 c8 wr g8 l8)
      have HE := Lib.hid hE
      clear g8 hE
      by_cases h0 : entryE x = 0
      · rw [h0] at HD
        have HN : Hid (firstBad (l.drop (i + 1)) = E) := Lib.hid (by have := HE.out; rwa [if_pos h0] at this)
        clear HE h0
        go_wp2_with (go_at_call 107; refine HD.out.mono ?_; rintro e w2 ⟨rfl, hb⟩; have HB2 := Lib.hid (HB.out.trans (hb.mono HB.out.size)); have HM2 : Hid (MsgAt w2 w.heap.size k who ver (some ad) l.length c) := Lib.hid ((hb.block _ HM.out.lt).trans HM.out); clear hb)
        go_roundg (l.length - (i + 1))
        case measure => omega
        case rel => exact ⟨i + 1, by go_num, by omega, rfl, HN, HB2, HM2⟩
      · have HN : Hid (entryE x = E) := Lib.hid (by have := HE.out; rwa [if_neg h0] at this)
        have hne : (entryE x != 0) = true := by simpa using h0
        rw [HN.out] at HD hne
        clear HE h0
        go_wp2_with (go_at_call 107; refine HD.out.mono ?_; rintro e w2 ⟨rfl, hb⟩; have HB2 := Lib.hid (HB.out.trans (hb.mono HB.out.size)); clear hb)
        go_ret
        exact ⟨rfl, HB2.out⟩
    · obtain rfl : i = l.length := by omega
      have hE := HE.out
      rw [List.drop_length] at hE
      obtain rfl : E = 0 := hE.symm
      clear hE
      go_wp2
      go_ret
      exact ⟨rfl, HB.out⟩

set_option maxHeartbeats 8000000 in
theorem rputMsg_is (m : MsgL) (A : Option Addr) (c : Nat) (w : World) (hr : Kd.C K.k26 w A m.l.length m.l) (hc : m.l.length ≤ c) :
    Calls Try.prog 53 #[msgV m A c] w fun e w' => ∃ v, e = .returned (.tuple #[v, .int .i64 (msgE m)]) ∧ BC w' v (putMsgF m).1 ∧ Below w.heap.size w w' := by
  unfold putMsgF
  simp only
  obtain ⟨w1, hw1⟩ : ∃ w1, w1 = w.alloc (msgO m A c) := ⟨_, rfl⟩
  have hb1 : Below w.heap.size w w1 := by rw [hw1]; exact (Below.refl _ _).alloc (Nat.le_refl _) _
  have hE1 : MsgAt w1 w.heap.size m.k m.who m.ver A m.l.length c := by rw [hw1]; exact World.alloc_heap_new w _
  have hD := rmessage_is m A c w1 (Kd.C_below hr hb1) hc
  rw [hw1] at hD
  have hz := @msgE_zero m
  unfold msgB
  obtain ⟨er, her⟩ : ∃ er, msgE m = er := ⟨_, rfl⟩
  rw [her] at hD hz ⊢
  clear her
  obtain ⟨k, who, ver, l⟩ := m
  unfold msgV at hD ⊢
  simp only at hr hc hE1 hD hz ⊢
  have HD := Lib.hid hD
  have HC := Lib.hid hr
  have HB1 := Lib.hid hb1
  have HE1 := Lib.hid hE1
  have HW1 := Lib.hid hw1
  clear hr hD hb1 hE1 hw1
  by_cases h0 : er = 0
  · subst h0
    obtain ⟨b0, b1, b2, b3, b4, b5, b6, hok⟩ := hz rfl
    have HOK := Lib.hid (fun x hx => entryE_zero (hok x hx))
    clear hz hok
    rw [if_pos rfl]
    have hn4 := getD_lt4 k who ver (l.length : Int) (by omega) (by omega) (by omega) (by omega)
    have hbl4 := vbs_le _ hn4
    simp only [List.length_cons, List.length_nil] at hbl4
    obtain ⟨ys, hys⟩ : ∃ ys, vbs [k, who, ver, (l.length : Int)] = ys := ⟨_, rfl⟩
    rw [hys] at hbl4 ⊢
    have HYS := Lib.hid hys
    have HN4 := Lib.hid hn4
    clear hys hn4
    go_enter Try.func53, Try.ntmps53
    go_upto_region 4 with (go_at_call 111; refine HD.out.mono ?_; rintro e w2 ⟨rfl, hb⟩; rw [← HW1.out] at hb; have HX2 := Lib.hid hb; clear hb)
    have hE2 : MsgAt w2 w.heap.size k who ver A l.length c := (HX2.out.block _ HE1.out.lt).trans HE1.out
    obtain ⟨c0, c1, c2, c3⟩ := hE2.c
    have HE2 := Lib.hid hE2
    have HB2 := Lib.hid (HB1.out.trans (HX2.out.mono HB1.out.size))
    have hnum := rnumsL (BC.nil w2) [k, who, ver, (l.length : Int)] #[.int .i64 k, .int .i64 who, .int .i64 ver, .int .i64 l.length] rfl (by simp) HN4.out (by simp)
    rw [List.nil_append, HYS.out] at hnum
    have HNUM := Lib.hid hnum
    clear hE2 hnum
    go_wp2_with (go_at_call 112; refine HNUM.out.mono ?_; rintro e w3 ⟨v3, rfl, hr, hb⟩; have HX3 := Lib.hid hr; have HB3 := Lib.hid (HB2.out.trans (hb.mono HB2.out.size)); have HE3 : Hid (MsgAt w3 w.heap.size k who ver A l.length c) := Lib.hid ((hb.block _ HE2.out.lt).trans HE2.out); clear hr hb)
    clear c0 c1 c2 c3
    go_loopg [5, 6] l.length (fun g s5 s6 wr => ∃ i : Nat, s6 = .int .i64 i ∧ i ≤ l.length ∧ g = l.length - i ∧ Hid (BC wr s5 (ys ++ (l.take i).flatMap entryB)) ∧ Hid (Below w.heap.size w wr) ∧ Hid (MsgAt wr w.heap.size k who ver A l.length c))
    case atStart => exact ⟨0, rfl, Nat.zero_le _, rfl, Lib.hid (by simpa using HX3.out), HB3, HE3⟩
    case round =>
      clear HX3 HB3 HE3 HE2 HB2 HNUM HD HX2
      obtain ⟨i, rfl, hi, hg, HX, HB, HM⟩ := hrel
      obtain ⟨zs, hzs⟩ : ∃ zs, ys ++ (l.take i).flatMap entryB = zs := ⟨_, rfl⟩
      rw [hzs] at HX
      obtain ⟨A5, k5, rfl, hC5⟩ := HX.out
      have q3 := HM.out.c.2.2.2
      by_cases hlt : i < l.length
      · obtain ⟨ad, A8, c8, ea, a0, a1, a2, a3, a4, a5, a6, a7, a8, a9, l8, g8⟩ := K.at_T26 (Kd.C_below HC.out HB.out) (i : Int) (by omega) (by omega)
        subst ea
        have hrd : K.rd_T26 l (i : Int) = l[i] := by unfold K.rd_T26; rw [Int.toNat_natCast, List.getD_eq_getElem?_getD, List.getElem?_eq_getElem hlt]; rfl
        have hsn := msgB_snoc l i hlt
        have hokx := HOK.out l[i] (List.getElem_mem hlt)
        have hle := ents_le (l.take i) (fun x hx => HOK.out x (List.mem_of_mem_take hx))
        have hll : (l.take i).length = i := by rw [List.length_take]; omega
        rw [hrd] at a0 a1 a2 a3 a4 a5 a6 a7 a8 a9 l8 g8
        rw [Int.toNat_natCast] at a0 a1 a2 a3 a4 a5 a6 a7 a8 a9
        generalize l[i] = x at hsn hokx a0 a1 a2 a3 a4 a5 a6 a7 a8 a9 l8 g8
        have hz2 : ys ++ (l.take (i + 1)).flatMap entryB = zs ++ entryB x := by rw [hsn, ← List.append_assoc, hzs]
        have hzl : zs.length ≤ 80000000000000 := by rw [← hzs, List.length_append]; rw [hll] at hle; omega
        have HD := Lib.hid (rentryw_is HX.out x A8 c8 g8 hokx (by omega))
        have HZ2 := Lib.hid hz2
        clear hrd hsn hle hll hzs hz2 hokx g8 HX hzl hC5
        go_wp2_with (go_at_call 108; refine HD.out.mono ?_; rintro e w5 ⟨v5, rfl, hr, hb⟩; rw [← HZ2.out] at hr; have HX5 := Lib.hid hr; have HB5 := Lib.hid (HB.out.trans (hb.mono HB.out.size)); have HM5 : Hid (MsgAt w5 w.heap.size k who ver (some ad) l.length c) := Lib.hid ((hb.block _ HM.out.lt).trans HM.out); clear hr hb)
        go_roundg (l.length - (i + 1))
        case measure => omega
        case rel => exact ⟨i + 1, by go_num, by omega, rfl, HX5, HB5, HM5⟩
      · obtain rfl : i = l.length := by omega
        rw [List.take_length] at hzs
        have HZS := Lib.hid hzs
        have HC5 := Lib.hid hC5
        clear hzs hC5 HX
        go_wp2
        go_ret2
        exact ⟨_, rfl, by rw [HZS.out]; exact ⟨A5, k5, rfl, HC5.out⟩, HB.out⟩
  · rw [if_neg h0]
    have hb : (er != 0) = true := by simpa using h0
    clear h0 hz
    go_enter Try.func53, Try.ntmps53
    go_wp2_with (go_at_call 111; refine HD.out.mono ?_; rintro e w2 ⟨rfl, hb⟩; rw [← HW1.out] at hb; have HB2 := Lib.hid (HB1.out.trans (hb.mono HB1.out.size)); clear hb)
    go_ret2
    exact ⟨_, rfl, BC.nil _, HB2.out⟩
end Go.Proofs.Ytmbnjgnmblgjoaa.Man
