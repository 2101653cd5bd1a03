/- The statement CodecPuts, stepped through. No condition. -/
import Derived.Test.YtmbnjgnmblgjoaaRefMsg
import Derived.Test.YtmbnjgnmblgjoaaOpensCodec
namespace Go.Proofs.Ytmbnjgnmblgjoaa.Man
open Go.RowKit Go.Proofs.YtmbnjgnmblgjoaaW.PrintWords Go.Proofs.YtmbnjgnmblgjoaaW.PrintLast Go.Proofs.YtmbnjgnmblgjoaaW.PrintMore
set_option linter.unusedVariables false
set_option linter.unusedSimpArgs false
set_option maxRecDepth 100000

set_option maxHeartbeats 16000000 in
theorem puts_walk (A1 : Option Addr) (c1 : Nat) (l : List K.S111) (x : K.S26) (cs : Array Value) (m : MsgL) (ds : Array Value) (w : World)
    (hr1 : Kd.C K.k111 w A1 l.length l) (hc1 : l.length ≤ c1) (_ : True) (hx : K.k26.K w x cs.toList) (_ : True) (hm : Open.kMsg.K w m ds.toList) (_ : True) :
    Calls Try.prog 8 #[.slice A1 l.length c1, .agg cs, .agg ds] w fun e w' => e = .returned (.bool true) ∧ Below w.heap.size w w' := by
  obtain ⟨A2, c2, ex, l2, g2⟩ := K.k26_open hx
  obtain ⟨A3, c3, em, l3, g3⟩ := Open.kMsg_open hm
  obtain rfl : cs = #[.int .i64 x.f0, .int .i64 x.f1, .int .i64 x.f2.f0, .int .i64 x.f2.f1, .int .i64 x.f2.f2, .int .i64 x.f2.f3, .int .i64 x.f2.f4, .int .i64 x.f2.f5, .slice A2 x.f2.f6.length c2, .int .i64 x.f2.f7] := by cases cs; simp only at ex; rw [ex]
  obtain rfl : ds = #[.int .i64 m.k, .int .i64 m.who, .int .i64 m.ver, .slice A3 m.l.length c3] := by cases ds; simp only at em; rw [em]
  obtain ⟨w0, hw0⟩ : ∃ w0, w0 = (w.alloc (entO x A2 c2)).alloc (msgO m A3 c3) := ⟨_, rfl⟩
  have hb0 : Below w.heap.size w w0 := by rw [hw0]; exact ((Below.refl _ _).alloc (Nat.le_refl _) _).alloc (by simp) _
  have hE0 : EntAt w0 w.heap.size x A2 c2 := by rw [hw0]; exact (Below.heap_alloc _ _ _ (by simp)).trans (World.alloc_heap_new w _)
  have hM0 : MsgAt w0 (w.heap.size + 1) m.k m.who m.ver A3 m.l.length c3 := by rw [hw0]; have := World.alloc_heap_new (w.alloc (entO x A2 c2)) (msgO m A3 c3); rwa [World.size_alloc] at this
  have hD := putDoc_is A1 c1 l w0 (Kd.C_below hr1 hb0) hc1
  rw [hw0] at hD
  have HD := Lib.hid hD
  have HB0 := Lib.hid hb0
  have HE0 := Lib.hid hE0
  have HM0 := Lib.hid hM0
  have HC1 := Lib.hid hr1
  have HC2 := Lib.hid g2
  have HC3 := Lib.hid g3
  have HW0 : Hid (w0 = (w.alloc (entO x A2 c2)).alloc (msgO m A3 c3)) := Lib.hid hw0
  have hz0 : w.heap.size + 2 ≤ w0.heap.size := by rw [hw0]; simp
  clear hx hm ex em hr1 g2 g3 hD hb0 hE0 hM0 hw0
  obtain ⟨b1, hb1⟩ : ∃ b, (putDocF l).1 = b := ⟨_, rfl⟩
  obtain ⟨b2, hb2⟩ : ∃ b, (putEntryF x).1 = b := ⟨_, rfl⟩
  obtain ⟨b3, hb3⟩ : ∃ b, (putMsgF m).1 = b := ⟨_, rfl⟩
  rw [hb1] at HD
  have HB1 := Lib.hid hb1
  have HB2 := Lib.hid hb2
  have HB3 := Lib.hid hb3
  clear hb1 hb2 hb3
  obtain ⟨e1, he1⟩ : ∃ e, docE l = e := ⟨_, rfl⟩
  obtain ⟨e2, he2⟩ : ∃ e, entryE x = e := ⟨_, rfl⟩
  obtain ⟨e3, he3⟩ : ∃ e, msgE m = e := ⟨_, rfl⟩
  rw [he1] at HD
  have HE1 := Lib.hid he1
  have HE2 := Lib.hid he2
  have HE3 := Lib.hid he3
  clear he1 he2 he3
  go_enter Try.func8, Try.ntmps8
  go_upto_region 3 with (first
    | (go_at_call 49; refine HD.out.mono ?_; rintro e w1 ⟨v, rfl, hr, hb⟩; rw [← HW0.out] at hb; obtain ⟨A4, k4, rfl, _, hC⟩ := BR.len hr; have HR1 := Lib.hid hC; have HX1 := Lib.hid hb; have HW1 := Lib.hid (HB0.out.trans (hb.mono HB0.out.size)); clear hr hb hC)
    | (go_at_call 50; refine (rputDoc_is A1 c1 l w1 (Kd.C_below HC1.out HW1.out) hc1).mono ?_; rintro e w2 ⟨v, rfl, hr, hb⟩; rw [HB1.out] at hr; rw [HE1.out]; obtain ⟨A5, k5, rfl, hC⟩ := hr; have HR2 := Lib.hid hC; have HR12 := Lib.hid (Kd.C_below HR1.out hb); have HX2 := Lib.hid (HX1.out.trans (hb.mono HX1.out.size)); have HW2 := Lib.hid (HB0.out.trans (HX2.out.mono HB0.out.size)); clear hb hC))
  have HE2' : Hid (EntAt w2 w.heap.size x A2 c2) := Lib.hid ((HX2.out.block _ HE0.out.lt).trans HE0.out)
  have HM2' : Hid (MsgAt w2 (w.heap.size + 1) m.k m.who m.ver A3 m.l.length c3) := Lib.hid ((HX2.out.block _ HM0.out.lt).trans HM0.out)
  obtain ⟨q0, q1, q2, q3, q4, q5, q6, q7, q8, q9⟩ := HE2'.out.c
  have hD3 := putEntry_is x A2 c2 w2 (Kd.C_below HC2.out HW2.out) l2
  rw [HB2.out, HE2.out] at hD3
  have HD3 := Lib.hid hD3
  clear hD3
  go_upto_region 4 with (go_at_call 19; refine HD3.out.mono ?_; rintro e w3 ⟨v, rfl, hr, hb⟩; obtain ⟨A6, k6, rfl, _, hC⟩ := BR.len hr; have HR3 := Lib.hid hC; have HR13 := Lib.hid (Kd.C_below HR12.out hb); have HR23 := Lib.hid (Kd.C_below HR2.out hb); have HE3' : Hid (EntAt w3 w.heap.size x A2 c2) := Lib.hid ((hb.block _ HE2'.out.lt).trans HE2'.out); have HM3' : Hid (MsgAt w3 (w.heap.size + 1) m.k m.who m.ver A3 m.l.length c3) := Lib.hid ((hb.block _ HM2'.out.lt).trans HM2'.out); have HW3 := Lib.hid (HW2.out.trans (hb.mono HW2.out.size)); clear hr hb hC)
  clear q0 q1 q2 q3 q4 q5 q6 q7 q8 q9
  obtain ⟨q0, q1, q2, q3, q4, q5, q6, q7, q8, q9⟩ := HE3'.out.c
  go_upto_region 5 with (go_at_call 51; refine (rputEntry_is x A2 c2 w3 (Kd.C_below HC2.out HW3.out) l2).mono ?_; rintro e w4 ⟨v, rfl, hr, hb⟩; rw [HB2.out] at hr; rw [HE2.out]; obtain ⟨A7, k7, rfl, hC⟩ := hr; have HR4 := Lib.hid hC; have HR14 := Lib.hid (Kd.C_below HR13.out hb); have HR24 := Lib.hid (Kd.C_below HR23.out hb); have HR34 := Lib.hid (Kd.C_below HR3.out hb); have HM4' : Hid (MsgAt w4 (w.heap.size + 1) m.k m.who m.ver A3 m.l.length c3) := Lib.hid ((hb.block _ HM3'.out.lt).trans HM3'.out); have HW4 := Lib.hid (HW3.out.trans (hb.mono HW3.out.size)); clear hb hC)
  clear q0 q1 q2 q3 q4 q5 q6 q7 q8 q9
  obtain ⟨q0, q1, q2, q3⟩ := HM4'.out.c
  have hD5 := putMsg_is m A3 c3 w4 (Kd.C_below HC3.out HW4.out) l3
  rw [HB3.out, HE3.out] at hD5
  have HD5 := Lib.hid hD5
  clear hD5
  go_upto_region 6 with (go_at_call 52; refine HD5.out.mono ?_; rintro e w5 ⟨v, rfl, hr, hb⟩; obtain ⟨A8, k8, rfl, _, hC⟩ := BR.len hr; have HR5 := Lib.hid hC; have HR15 := Lib.hid (Kd.C_below HR14.out hb); have HR25 := Lib.hid (Kd.C_below HR24.out hb); have HR35 := Lib.hid (Kd.C_below HR34.out hb); have HR45 := Lib.hid (Kd.C_below HR4.out hb); have HM5' : Hid (MsgAt w5 (w.heap.size + 1) m.k m.who m.ver A3 m.l.length c3) := Lib.hid ((hb.block _ HM4'.out.lt).trans HM4'.out); have HW5 := Lib.hid (HW4.out.trans (hb.mono HW4.out.size)); clear hr hb hC)
  clear q0 q1 q2 q3
  obtain ⟨q0, q1, q2, q3⟩ := HM5'.out.c
  go_upto_region 7 with (go_at_call 53; refine (rputMsg_is m A3 c3 w5 (Kd.C_below HC3.out HW5.out) l3).mono ?_; rintro e w6 ⟨v, rfl, hr, hb⟩; rw [HB3.out] at hr; rw [HE3.out]; obtain ⟨A9, k9, rfl, hC⟩ := hr; have HR6 := Lib.hid hC; have HR16 := Lib.hid (Kd.C_below HR15.out hb); have HR26 := Lib.hid (Kd.C_below HR25.out hb); have HR36 := Lib.hid (Kd.C_below HR35.out hb); have HR46 := Lib.hid (Kd.C_below HR45.out hb); have HR56 := Lib.hid (Kd.C_below HR5.out hb); have HW6 := Lib.hid (HW5.out.trans (hb.mono HW5.out.size)); clear hb hC)
  have t1 : (convert 27 9 (.slice A4 b1.length k4)).run Try.prog w6 = .ok (.string (strOfNums b1)) w6 := bstr_of HR16.out
  have t2 : (convert 27 9 (.slice A5 b1.length k5)).run Try.prog w6 = .ok (.string (strOfNums b1)) w6 := bstr_of HR26.out
  have t3 : (convert 27 9 (.slice A6 b2.length k6)).run Try.prog w6 = .ok (.string (strOfNums b2)) w6 := bstr_of HR36.out
  have t4 : (convert 27 9 (.slice A7 b2.length k7)).run Try.prog w6 = .ok (.string (strOfNums b2)) w6 := bstr_of HR46.out
  have t5 : (convert 27 9 (.slice A8 b3.length k8)).run Try.prog w6 = .ok (.string (strOfNums b3)) w6 := bstr_of HR56.out
  have t6 : (convert 27 9 (.slice A9 b3.length k9)).run Try.prog w6 = .ok (.string (strOfNums b3)) w6 := bstr_of HR6.out
  clear HD HD3 HD5
  go_wp2_with (go_at_call 47; refine (awake16_is _).mono ?_; rintro e w7 ⟨rfl, hb⟩; have HW7 := Lib.hid (HW6.out.trans (hb.mono HW6.out.size)); clear hb)
  go_ret
  exact ⟨rfl, HW7.out⟩
end Go.Proofs.Ytmbnjgnmblgjoaa.Man
