/- The reference's PutDoc, PutEntry, PutMsg: what they come to. -/
import Derived.Test.YtmbnjgnmblgjoaaRefDoc
import Derived.Test.YtmbnjgnmblgjoaaRefMath
namespace Go.Proofs.Ytmbnjgnmblgjoaa.Man
open Go.RowKit Go.Proofs.YtmbnjgnmblgjoaaW.PrintWords Go.Proofs.YtmbnjgnmblgjoaaW.PrintLast Go.Proofs.YtmbnjgnmblgjoaaW.PrintMore
set_option linter.unusedVariables false
set_option linter.unusedSimpArgs false
set_option maxRecDepth 100000

set_option maxHeartbeats 8000000 in
theorem rputDoc_is (A : Option Addr) (c : Nat) (l : List K.S111) (w : World) (hr : Kd.C K.k111 w A l.length l) (hc : l.length ≤ c) :
    Calls Try.prog 50 #[.slice A l.length c] w fun e w' => ∃ v, e = .returned (.tuple #[v, .int .i64 (docE l)]) ∧ BC w' v (putDocF l).1 ∧ Below w.heap.size w w' := by
  unfold putDocF
  simp only
  have hD : docE l = if 2048 < l.length then 2 else if l.all rightB then 0 else 1 := rfl
  have hz := @docE_zero l
  obtain ⟨er, her⟩ : ∃ er, docE l = er := ⟨_, rfl⟩
  rw [her] at hD hz ⊢
  have HC := Lib.hid hr
  clear hr her
  by_cases hbig : 2048 < l.length
  · rw [if_pos hbig] at hD
    subst hD
    rw [if_neg (by decide)]
    go_enter Try.func50, Try.ntmps50
    go_wp2
    go_ret2
    exact ⟨_, rfl, BC.nil _, Below.refl _ _⟩
  rw [if_neg hbig] at hD
  have HD := Lib.hid hD
  have HZ := Lib.hid hz
  obtain ⟨R, hR⟩ : ∃ R, (if er = 0 then docB l else []) = R := ⟨_, rfl⟩
  rw [hR]
  have HR := Lib.hid hR
  clear hD hz hR
  go_enter Try.func50, Try.ntmps50
  go_wp2
  go_loopg [4] l.length (fun g s4 wr => ∃ i : Nat, s4 = .int .i64 i ∧ i ≤ l.length ∧ g = l.length - i ∧ Hid (er = if (l.drop i).all rightB then 0 else 1) ∧ Hid (Below w.heap.size w wr))
  case atStart => exact ⟨0, rfl, Nat.zero_le _, rfl, Lib.hid (by rw [List.drop_zero]; exact HD.out), Lib.hid (Below.refl _ _)⟩
  case round =>
    obtain ⟨i, rfl, hi, hg, HE, HB⟩ := hrel
    by_cases hlt : i < l.length
    · obtain ⟨ad, ea, a0, a1, a2, a3⟩ := K.at_T111 (Kd.C_below HC.out HB.out) (i : Int) (by omega) (by omega)
      subst ea
      rw [rd_nat l i hlt, Int.toNat_natCast] at a0 a1 a2 a3
      have hdr : l.drop i = l[i] :: l.drop (i + 1) := List.drop_eq_getElem_cons hlt
      have hE := HE.out
      rw [hdr, List.all_cons] at hE
      generalize l[i] = x at hE a0 a1 a2 a3
      have HO := Lib.hid (K.emenderref04_Right.calls 1 x.f0 x.f1 x.f2 x.f3 (rightB x) wr (rright_f x 1 (by decide)))
      cases hrx : rightB x with
      | true =>
        rw [hrx] at HO
        have HN : Hid (er = if (l.drop (i + 1)).all rightB then 0 else 1) := Lib.hid (by rw [hE, hrx, Bool.true_and])
        clear hdr hE HE hrx
        go_wp2_with (go_at_call 105; refine HO.out.mono ?_; rintro e w2 ⟨rfl, hb⟩; have HB2 := Lib.hid (HB.out.trans (hb.mono HB.out.size)); clear hb)
        go_roundg (l.length - (i + 1))
        case measure => omega
        case rel => exact ⟨i + 1, by go_num, by omega, rfl, HN, HB2⟩
      | false =>
        rw [hrx] at HO
        obtain rfl : er = 1 := by rw [hE, hrx]; rfl
        have HRR : Hid (R = []) := Lib.hid (by rw [← HR.out, if_neg (by decide)])
        clear hdr hE HE hrx
        go_wp2_with (go_at_call 105; refine HO.out.mono ?_; rintro e w2 ⟨rfl, hb⟩; have HB2 := Lib.hid (HB.out.trans (hb.mono HB.out.size)); clear hb)
        go_ret2
        exact ⟨_, rfl, by rw [HRR.out]; exact BC.nil _, HB2.out⟩
    · obtain rfl : i = l.length := by omega
      obtain rfl : er = 0 := by have := HE.out; rw [List.drop_length] at this; simpa using this
      obtain ⟨hl, hok⟩ := HZ.out rfl
      have HRR : Hid (R = docB l) := Lib.hid (by rw [← HR.out, if_pos rfl])
      have HO := Lib.hid (rdocw_is (BC.nil wr) A c l (Kd.C_below HC.out HB.out) hl (fun x hx => right_tok (hok x hx)) (by simp))
      clear hok HE
      go_wp2_with (go_at_call 106; refine HO.out.mono ?_; rintro e w2 ⟨v2, rfl, hr, hb⟩; rw [List.nil_append] at hr; have HR2 := Lib.hid hr; have HB2 := Lib.hid (HB.out.trans (hb.mono HB.out.size)); clear hr hb)
      go_ret2
      exact ⟨_, rfl, by rw [HRR.out]; exact HR2.out, HB2.out⟩

theorem rcheck_is (x : K.S26) (A : Option Addr) (c : Nat) (w : World) (hr : Kd.C K.k111 w A x.f2.f6.length x.f2.f6) (hc : x.f2.f6.length ≤ c) :
    Calls Try.prog 107 #[entV x A c] w fun e w' => e = .returned (.int .i64 (entryE x)) ∧ Below w.heap.size w w' :=
  K.emenderref16_check.calls 2060 _ _ _ _ _ _ _ _ A c _ _ _ w hr hc (rentryE_f x 2060 (by decide))

set_option maxHeartbeats 8000000 in
theorem rputEntry_is (x : K.S26) (A : Option Addr) (c : Nat) (w : World) (hr : Kd.C K.k111 w A x.f2.f6.length x.f2.f6) (hc : x.f2.f6.length ≤ c) :
    Calls Try.prog 51 #[entV x A c] w fun e w' => ∃ v, e = .returned (.tuple #[v, .int .i64 (entryE x)]) ∧ BC w' v (putEntryF x).1 ∧ Below w.heap.size w w' := by
  unfold putEntryF
  simp only
  obtain ⟨w1, hw1⟩ : ∃ w1, w1 = w.alloc (entO x A c) := ⟨_, rfl⟩
  have hb1 : Below w.heap.size w w1 := by rw [hw1]; exact (Below.refl _ _).alloc (Nat.le_refl _) _
  have hE1 : EntAt w1 w.heap.size x A c := by rw [hw1]; exact World.alloc_heap_new w _
  have hD := rcheck_is x A c w1 (Kd.C_below hr hb1) hc
  rw [hw1] at hD
  have hz := @entryE_zero x
  obtain ⟨er, her⟩ : ∃ er, entryE x = er := ⟨_, rfl⟩
  rw [her] at hD hz ⊢
  have HD := Lib.hid hD
  have HC := Lib.hid hr
  have HB1 := Lib.hid hb1
  have HE1 := Lib.hid hE1
  have HW1 : Hid (w1 = w.alloc (entO x A c)) := Lib.hid hw1
  clear hr her hD hb1 hE1 hw1
  by_cases h0 : er = 0
  · subst h0
    have HOK := Lib.hid (hz rfl)
    clear hz
    rw [if_pos rfl]
    go_enter Try.func51, Try.ntmps51
    go_upto_region 4 with (go_at_call 107; refine HD.out.mono ?_; rintro e w2 ⟨rfl, hb⟩; rw [← HW1.out] at hb; have HX2 := Lib.hid hb; clear hb)
    have hE3 : EntAt w2 w.heap.size x A c := (HX2.out.block _ HE1.out.lt).trans HE1.out
    obtain ⟨c0, c1, c2, c3, c4, c5, c6, c7, c8, c9⟩ := hE3.c
    have HB2 := Lib.hid (HB1.out.trans (HX2.out.mono HB1.out.size))
    have HO := Lib.hid (rentryw_is (BC.nil w2) x A c (Kd.C_below HC.out HB2.out) HOK.out (by simp))
    clear hE3
    go_wp2_with (go_at_call 108; refine HO.out.mono ?_; rintro e w3 ⟨v3, rfl, hr, hb⟩; rw [List.nil_append] at hr; have HR := Lib.hid hr; have HB3 := Lib.hid (HB2.out.trans (hb.mono HB2.out.size)); clear hr hb)
    go_ret2
    exact ⟨_, rfl, HR.out, HB3.out⟩
  · rw [if_neg h0]
    have hb : (er != 0) = true := by simpa using h0
    clear h0 hz
    go_enter Try.func51, Try.ntmps51
    go_wp2_with (go_at_call 107; refine HD.out.mono ?_; rintro e w2 ⟨rfl, hb⟩; rw [← HW1.out] at hb; have HB2 := Lib.hid (HB1.out.trans (hb.mono HB1.out.size)); clear hb)
    go_ret2
    exact ⟨_, rfl, BC.nil _, HB2.out⟩
end Go.Proofs.Ytmbnjgnmblgjoaa.Man
