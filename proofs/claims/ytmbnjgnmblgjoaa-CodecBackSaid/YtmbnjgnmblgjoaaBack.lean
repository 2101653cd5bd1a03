/- The statement CodecBack, stepped through. No condition. Printed by wip/tools/gen_back.py. -/
import Derived.Test.YtmbnjgnmblgjoaaBackMath
import Derived.Test.YtmbnjgnmblgjoaaOpensCodec
namespace Go.Proofs.Ytmbnjgnmblgjoaa.Man
open Go.RowKit Go.Proofs.YtmbnjgnmblgjoaaW.PrintWords Go.Proofs.YtmbnjgnmblgjoaaW.PrintLast Go.Proofs.YtmbnjgnmblgjoaaW.PrintMore
set_option linter.unusedVariables false
set_option linter.unusedSimpArgs false
set_option maxRecDepth 100000

theorem EntAt.below {w W : World} {P c : Nat} {x : K.S26} {A : Option Addr} (h : EntAt w P x A c) (hb : Below w.heap.size w W) : EntAt W P x A c := (hb.block _ h.lt).trans h
theorem MsgAt.below {w W : World} {P n c : Nat} {k who ver : Int} {A : Option Addr} (h : MsgAt w P k who ver A n c) (hb : Below w.heap.size w W) : MsgAt W P k who ver A n c := (hb.block _ h.lt).trans h
theorem EntAt.ne {w W : World} {P c : Nat} {x : K.S26} {A : Option Addr} (h : EntAt w P x A c) (e : W.heap[P]? = w.heap[P]?) : EntAt W P x A c := e.trans h
theorem MsgAt.ne {w W : World} {P n c : Nat} {k who ver : Int} {A : Option Addr} (h : MsgAt w P k who ver A n c) (e : W.heap[P]? = w.heap[P]?) : MsgAt W P k who ver A n c := e.trans h
theorem setMsg_ne (w : World) (E j : Nat) (b0 b1 b2 : Int) (u : Value) (h : j ≠ E) : (setMsg w E b0 b1 b2 u).heap[j]? = w.heap[j]? := by
  unfold setMsg
  rw [heap_set_ne _ _ _ _ _ h, heap_set_ne _ _ _ _ _ h, heap_set_ne _ _ _ _ _ h, heap_set_ne _ _ _ _ _ h]
theorem put_doc {l : List K.S111} (h : docE l = 0) : putDocF l = (docB l, 0) := by unfold putDocF; rw [if_pos h, h]
theorem put_ent {x : K.S26} (h : entryE x = 0) : putEntryF x = (entryB x, 0) := by unfold putEntryF; rw [if_pos h, h]
theorem put_msg {m : MsgL} (h : msgE m = 0) : putMsgF m = (msgB m, 0) := by unfold putMsgF; rw [if_pos h, h]

set_option maxHeartbeats 32000000 in
theorem back_walk (A1 : Option Addr) (c1 : Nat) (l : List K.S111) (x : K.S26) (cs : Array Value) (m : MsgL) (ds : Array Value) (w : World)
    (hr1 : Kd.C K.k111 w A1 l.length l) (hc1 : l.length ≤ c1) (_ : True) (hx : K.k26.K w x cs.toList) (_ : True) (hm : Open.kMsg.K w m ds.toList) (_ : True) :
    Calls Try.prog 13 #[.slice A1 l.length c1, .agg cs, .agg ds] w fun e w' => e = .returned (.bool true) ∧ Below w.heap.size w w' := by
  obtain ⟨A2, c2, ex, l2, g2⟩ := K.k26_open hx
  obtain ⟨A3, c3, em, l3, g3⟩ := Open.kMsg_open hm
  obtain rfl : cs = #[.int .i64 x.f0, .int .i64 x.f1, .int .i64 x.f2.f0, .int .i64 x.f2.f1, .int .i64 x.f2.f2, .int .i64 x.f2.f3, .int .i64 x.f2.f4, .int .i64 x.f2.f5, .slice A2 x.f2.f6.length c2, .int .i64 x.f2.f7] := by cases cs; simp only at ex; rw [ex]
  obtain rfl : ds = #[.int .i64 m.k, .int .i64 m.who, .int .i64 m.ver, .slice A3 m.l.length c3] := by cases ds; simp only at em; rw [em]
  obtain ⟨w0, hw0⟩ : ∃ w0, w0 = (w.alloc (entO x A2 c2)).alloc (msgO m A3 c3) := ⟨_, rfl⟩
  have hb0 : Below w.heap.size w w0 := by rw [hw0]; exact ((Below.refl _ _).alloc (Nat.le_refl _) _).alloc (by simp) _
  have hE0 : EntAt w0 w.heap.size x A2 c2 := by rw [hw0]; exact (Below.heap_alloc _ _ _ (by simp)).trans (World.alloc_heap_new w _)
  have hM0 : MsgAt w0 (w.heap.size + 1) m.k m.who m.ver A3 m.l.length c3 := by rw [hw0]; have := World.alloc_heap_new (w.alloc (entO x A2 c2)) (msgO m A3 c3); rwa [World.size_alloc] at this
  have hD := putDoc_is A1 c1 l w0 (Kd.C_below hr1 hb0) hc1
  have hz0 : w.heap.size + 2 ≤ w0.heap.size := by rw [hw0]; simp
  have HB0 := Lib.hid hb0
  have HE0 := Lib.hid hE0
  have HM0 := Lib.hid hM0
  have HC1 := Lib.hid hr1
  have HC2 := Lib.hid g2
  have HC3 := Lib.hid g3
  have HZ0 := Lib.hid hz0
  have HW0 : Hid (w0 = (w.alloc (entO x A2 c2)).alloc (msgO m A3 c3)) := Lib.hid hw0
  rw [hw0] at hD
  clear hx hm ex em hr1 g2 g3 hb0 hE0 hM0 hw0 hz0
  by_cases h1 : docE l = 0
  · rw [h1, put_doc h1] at hD
    have HD := Lib.hid hD
    have HG1 := Lib.hid (getDoc_put h1)
    clear hD
    go_enter Try.func13, Try.ntmps13
    go_upto_region 6 with (first
      | (go_at_call 49; refine HD.out.mono ?_; rintro e w1 ⟨v, rfl, hr, hb⟩; rw [← HW0.out] at hb; obtain ⟨A4, k4, rfl, hk4, hC⟩ := BR.len hr; have HR1 := Lib.hid hC; have HK1 := Lib.hid hk4; have HX1 := Lib.hid hb; clear hr hb hC hk4)
      | (go_at_call 63; refine (getDoc_is w1 A4 k4 (docB l) HR1.out HK1.out (docB_bytes l)).mono ?_; rw [HG1.out]; rintro e w2 ⟨v, rfl, hr, hb⟩; obtain ⟨A5, k5, rfl, _, hC⟩ := TR.C hr; have HR2 := Lib.hid hC; have HX2 := Lib.hid (HX1.out.trans (hb.mono HX1.out.size)); clear hr hb hC)
      | (go_at_call 68; refine (alike16_yes w2 A5 A1 k5 c1 l HR2.out (Kd.C_below HC1.out (HB0.out.trans (HX2.out.mono HB0.out.size)))).mono ?_; rintro e wD ⟨rfl, hb⟩; have HXD := Lib.hid (HX2.out.trans (hb.mono HX2.out.size)); clear hb))
    clear HD HG1
    clear HW0
    have HBD : Hid (Below w.heap.size w wD) := Lib.hid (HB0.out.trans (HXD.out.mono HB0.out.size))
    have HED := Lib.hid (HE0.out.below HXD.out)
    have HMD := Lib.hid (HM0.out.below HXD.out)
    have HZD : Hid (w.heap.size + 2 ≤ wD.heap.size) := Lib.hid (Nat.le_trans HZ0.out HXD.out.size)
    clear HB0 HE0 HM0 HZ0 HXD
    obtain ⟨q0, q1, q2, q3, q4, q5, q6, q7, q8, q9⟩ := HED.out.c
    have hD := putEntry_is x A2 c2 wD (Kd.C_below HC2.out HBD.out) l2
    by_cases h2 : entryE x = 0
    · rw [h2, put_ent h2] at hD
      have HD := Lib.hid hD
      have HG1 := Lib.hid (getEntry_put h2)
      clear hD
      go_upto_region 9 with (first
        | (go_at_call 19; refine HD.out.mono ?_; rintro e w1 ⟨v, rfl, hr, hb⟩; obtain ⟨A6, k6, rfl, hk6, hC⟩ := BR.len hr; have HR1 := Lib.hid hC; have HK1 := Lib.hid hk6; have HX1 := Lib.hid hb; clear hr hb hC hk6)
        | (go_at_call 23; refine (getEntry_is w1 A6 k6 (entryB x) HR1.out HK1.out (entryB_bytes x)).mono ?_; rw [HG1.out]; rintro e w2 ⟨v, rfl, ⟨u, rfl, hr⟩, hb⟩; obtain ⟨A7, k7, rfl, l7, hC⟩ := TR.C hr; have HR2 := Lib.hid hC; have HX2 := Lib.hid (HX1.out.trans (hb.mono HX1.out.size)); clear hr hb hC))
      clear HD HG1 q0 q1 q2 q3 q4 q5 q6 q7 q8 q9
      obtain ⟨w4, hw4⟩ : ∃ w4, w2.alloc (entO x A7 k7) = w4 := ⟨_, rfl⟩
      have HN4 : Hid (EntC w4 w2.heap.size x.f0 x.f1 x.f2.f0 x.f2.f1 x.f2.f2 x.f2.f3 x.f2.f4 x.f2.f5 (.slice A7 x.f2.f6.length k7) x.f2.f7) := Lib.hid (by rw [← hw4]; exact World.alloc_heap_new w2 _)
      have hb4 : Below w2.heap.size w2 w4 := by rw [← hw4]; exact (Below.refl _ _).alloc (Nat.le_refl _) _
      rw [hw4]
      have HX4 := Lib.hid (HX2.out.trans (hb4.mono HX2.out.size))
      have HR4 := Lib.hid (Kd.C_below HR2.out hb4)
      have HE4 := Lib.hid (HED.out.below HX4.out)
      have HB4 := Lib.hid (HBD.out.trans (HX4.out.mono HBD.out.size))
      clear hw4 hb4
      obtain ⟨q0, q1, q2, q3, q4, q5, q6, q7, q8, q9⟩ := HE4.out.c
      have hV5 : EntC (w4.alloc (.cells #[.int .i64 x.f0, .int .i64 x.f1, .int .i64 x.f2.f0, .int .i64 x.f2.f1, .int .i64 x.f2.f2, .int .i64 x.f2.f3, .int .i64 x.f2.f4, .int .i64 x.f2.f5, .slice A2 x.f2.f6.length c2, .int .i64 x.f2.f7] 26)) w2.heap.size x.f0 x.f1 x.f2.f0 x.f2.f1 x.f2.f2 x.f2.f3 x.f2.f4 x.f2.f5 (.slice A7 x.f2.f6.length k7) x.f2.f7 := HN4.out.ne (((Below.refl _ _).alloc (Nat.le_refl _) _ : Below w4.heap.size w4 _).block _ HN4.out.lt)
      obtain ⟨v0, v1, v2, v3, v4, v5, v6, v7, v8, v9⟩ := hV5.cells
      clear hV5
      have HL5 : Hid (Below w4.heap.size w4 ((w4.alloc (entO x A2 c2)).alloc (entO x A7 k7))) := Lib.hid (((Below.refl _ _).alloc (Nat.le_refl _) _).alloc (by simp) _)
      have hS5 := entries16_yes ((w4.alloc (entO x A2 c2)).alloc (entO x A7 k7)) (some ⟨w4.heap.size, 0, none⟩) (some ⟨w4.heap.size + 1, 0, none⟩) 1 1 [x]
        (Kd.C_below (C_ent1 w4 x A2 c2 l2 (Kd.C_below HC2.out HB4.out)) ((Below.refl _ _).alloc (Nat.le_refl _) _))
        (by have h := C_ent1 (w4.alloc (entO x A2 c2)) x A7 k7 l7 (Kd.C_below HR4.out ((Below.refl _ _).alloc (Nat.le_refl _) _)); rwa [World.size_alloc] at h)
      have HS5 := Lib.hid hS5
      clear hS5
      go_upto_region 11 with (go_at_call 69; refine HS5.out.mono ?_; rintro e wE ⟨rfl, hb⟩; have HXE := Lib.hid (HX4.out.trans ((HL5.out.trans (hb.mono HL5.out.size)).mono HX4.out.size)); clear hb)
      clear q0 q1 q2 q3 q4 q5 q6 q7 q8 q9 v0 v1 v2 v3 v4 v5 v6 v7 v8 v9
      have HBE : Hid (Below w.heap.size w wE) := Lib.hid (HBD.out.trans (HXE.out.mono HBD.out.size))
      have HME := Lib.hid (HMD.out.below HXE.out)
      clear HBD HMD HED HZD
      obtain ⟨q0, q1, q2, q3⟩ := HME.out.c
      have hD := putMsg_is m A3 c3 wE (Kd.C_below HC3.out HBE.out) l3
      by_cases h3 : msgE m = 0
      · rw [h3, put_msg h3] at hD
        have HD := Lib.hid hD
        have HG1 := Lib.hid (getMsg_put h3)
        clear hD
        go_upto_region 14 with (first
          | (go_at_call 52; refine HD.out.mono ?_; rintro e w1 ⟨v, rfl, hr, hb⟩; obtain ⟨A6, k6, rfl, hk6, hC⟩ := BR.len hr; have HR1 := Lib.hid hC; have HK1 := Lib.hid hk6; have HX1 := Lib.hid hb; clear hr hb hC hk6)
          | (go_at_call 66; refine (getMsg_is w1 A6 k6 (msgB m) HR1.out HK1.out (msgB_bytes m)).mono ?_; rw [HG1.out]; rintro e w2 ⟨v, rfl, ⟨u, rfl, hr⟩, hb⟩; obtain ⟨A7, k7, rfl, l7, hC⟩ := ER.C hr; have HR2 := Lib.hid hC; have HX2 := Lib.hid (HX1.out.trans (hb.mono HX1.out.size)); clear hr hb hC))
        clear HD HG1 q0 q1 q2 q3
        obtain ⟨w4, hw4⟩ : ∃ w4, w2.alloc (msgO m A7 k7) = w4 := ⟨_, rfl⟩
        have HN4 : Hid (MsgC w4 w2.heap.size m.k m.who m.ver (.slice A7 m.l.length k7)) := Lib.hid (by rw [← hw4]; exact World.alloc_heap_new w2 _)
        have hb4 : Below w2.heap.size w2 w4 := by rw [← hw4]; exact (Below.refl _ _).alloc (Nat.le_refl _) _
        rw [hw4]
        have HX4 := Lib.hid (HX2.out.trans (hb4.mono HX2.out.size))
        have HM4 := Lib.hid (HME.out.below HX4.out)
        have HB4 := Lib.hid (HBE.out.trans (HX4.out.mono HBE.out.size))
        have HS5 := Lib.hid (message16_yes w4 A7 A3 k7 c3 m (Kd.C_below HR2.out hb4) (Kd.C_below HC3.out HB4.out))
        clear hw4 hb4
        obtain ⟨q0, q1, q2, q3⟩ := HM4.out.c
        obtain ⟨v0, v1, v2, v3⟩ := HN4.out.cells
        go_wp2_with (first
          | (go_at_call 70; refine HS5.out.mono ?_; rintro e w5 ⟨rfl, hb⟩; have HB5 := Lib.hid (HB4.out.trans (hb.mono HB4.out.size)); clear hb)
          | (go_at_call 47; refine (awake16_is _).mono ?_; rintro e w7 ⟨rfl, hb⟩; have HW7 := Lib.hid (HB5.out.trans (hb.mono HB5.out.size)); clear hb))
        go_ret
        exact ⟨rfl, HW7.out⟩
      · have hbe1 : (msgE m == 0) = false := by simpa using h3
        obtain ⟨e3, he3⟩ : ∃ e3, msgE m = e3 := ⟨_, rfl⟩
        rw [he3] at hD hbe1
        have HD := Lib.hid hD
        clear hD he3 h3
        go_wp2_with (first
          | (go_at_call 52; refine HD.out.mono ?_; rintro e w1 ⟨v, rfl, hr, hb⟩; obtain ⟨A6, k6, rfl, _, hC⟩ := BR.len hr; have HB5 := Lib.hid (HBE.out.trans (hb.mono HBE.out.size)); clear hr hb hC)
          | (go_at_call 47; refine (awake16_is _).mono ?_; rintro e w7 ⟨rfl, hb⟩; have HW7 := Lib.hid (HB5.out.trans (hb.mono HB5.out.size)); clear hb))
        go_ret
        exact ⟨rfl, HW7.out⟩
    · have hbe1 : (entryE x == 0) = false := by simpa using h2
      obtain ⟨e2, he2⟩ : ∃ e2, entryE x = e2 := ⟨_, rfl⟩
      rw [he2] at hD hbe1
      have HD := Lib.hid hD
      clear hD he2 h2
      go_upto_region 11 with (go_at_call 19; refine HD.out.mono ?_; rintro e wE ⟨v, rfl, hr, hb⟩; obtain ⟨A6, k6, rfl, _, hC⟩ := BR.len hr; have HXE := Lib.hid hb; clear hr hb hC)
      clear HD hbe1 q0 q1 q2 q3 q4 q5 q6 q7 q8 q9
      have HBE : Hid (Below w.heap.size w wE) := Lib.hid (HBD.out.trans (HXE.out.mono HBD.out.size))
      have HME := Lib.hid (HMD.out.below HXE.out)
      clear HBD HMD HED HZD
      obtain ⟨q0, q1, q2, q3⟩ := HME.out.c
      have hD := putMsg_is m A3 c3 wE (Kd.C_below HC3.out HBE.out) l3
      by_cases h3 : msgE m = 0
      · rw [h3, put_msg h3] at hD
        have HD := Lib.hid hD
        have HG1 := Lib.hid (getMsg_put h3)
        clear hD
        go_upto_region 14 with (first
          | (go_at_call 52; refine HD.out.mono ?_; rintro e w1 ⟨v, rfl, hr, hb⟩; obtain ⟨A6, k6, rfl, hk6, hC⟩ := BR.len hr; have HR1 := Lib.hid hC; have HK1 := Lib.hid hk6; have HX1 := Lib.hid hb; clear hr hb hC hk6)
          | (go_at_call 66; refine (getMsg_is w1 A6 k6 (msgB m) HR1.out HK1.out (msgB_bytes m)).mono ?_; rw [HG1.out]; rintro e w2 ⟨v, rfl, ⟨u, rfl, hr⟩, hb⟩; obtain ⟨A7, k7, rfl, l7, hC⟩ := ER.C hr; have HR2 := Lib.hid hC; have HX2 := Lib.hid (HX1.out.trans (hb.mono HX1.out.size)); clear hr hb hC))
        clear HD HG1 q0 q1 q2 q3
        obtain ⟨w4, hw4⟩ : ∃ w4, w2.alloc (msgO m A7 k7) = w4 := ⟨_, rfl⟩
        have HN4 : Hid (MsgC w4 w2.heap.size m.k m.who m.ver (.slice A7 m.l.length k7)) := Lib.hid (by rw [← hw4]; exact World.alloc_heap_new w2 _)
        have hb4 : Below w2.heap.size w2 w4 := by rw [← hw4]; exact (Below.refl _ _).alloc (Nat.le_refl _) _
        rw [hw4]
        have HX4 := Lib.hid (HX2.out.trans (hb4.mono HX2.out.size))
        have HM4 := Lib.hid (HME.out.below HX4.out)
        have HB4 := Lib.hid (HBE.out.trans (HX4.out.mono HBE.out.size))
        have HS5 := Lib.hid (message16_yes w4 A7 A3 k7 c3 m (Kd.C_below HR2.out hb4) (Kd.C_below HC3.out HB4.out))
        clear hw4 hb4
        obtain ⟨q0, q1, q2, q3⟩ := HM4.out.c
        obtain ⟨v0, v1, v2, v3⟩ := HN4.out.cells
        go_wp2_with (first
          | (go_at_call 70; refine HS5.out.mono ?_; rintro e w5 ⟨rfl, hb⟩; have HB5 := Lib.hid (HB4.out.trans (hb.mono HB4.out.size)); clear hb)
          | (go_at_call 47; refine (awake16_is _).mono ?_; rintro e w7 ⟨rfl, hb⟩; have HW7 := Lib.hid (HB5.out.trans (hb.mono HB5.out.size)); clear hb))
        go_ret
        exact ⟨rfl, HW7.out⟩
      · have hbe1 : (msgE m == 0) = false := by simpa using h3
        obtain ⟨e3, he3⟩ : ∃ e3, msgE m = e3 := ⟨_, rfl⟩
        rw [he3] at hD hbe1
        have HD := Lib.hid hD
        clear hD he3 h3
        go_wp2_with (first
          | (go_at_call 52; refine HD.out.mono ?_; rintro e w1 ⟨v, rfl, hr, hb⟩; obtain ⟨A6, k6, rfl, _, hC⟩ := BR.len hr; have HB5 := Lib.hid (HBE.out.trans (hb.mono HBE.out.size)); clear hr hb hC)
          | (go_at_call 47; refine (awake16_is _).mono ?_; rintro e w7 ⟨rfl, hb⟩; have HW7 := Lib.hid (HB5.out.trans (hb.mono HB5.out.size)); clear hb))
        go_ret
        exact ⟨rfl, HW7.out⟩
  · have hbe1 : (docE l == 0) = false := by simpa using h1
    obtain ⟨e1, he1⟩ : ∃ e1, docE l = e1 := ⟨_, rfl⟩
    rw [he1] at hD hbe1
    have HD := Lib.hid hD
    clear hD he1 h1
    go_enter Try.func13, Try.ntmps13
    go_upto_region 6 with (go_at_call 49; refine HD.out.mono ?_; rintro e wD ⟨v, rfl, hr, hb⟩; rw [← HW0.out] at hb; obtain ⟨A4, k4, rfl, _, hC⟩ := BR.len hr; have HXD := Lib.hid hb; clear hr hb hC)
    clear HD hbe1
    clear HW0
    have HBD : Hid (Below w.heap.size w wD) := Lib.hid (HB0.out.trans (HXD.out.mono HB0.out.size))
    have HED := Lib.hid (HE0.out.below HXD.out)
    have HMD := Lib.hid (HM0.out.below HXD.out)
    have HZD : Hid (w.heap.size + 2 ≤ wD.heap.size) := Lib.hid (Nat.le_trans HZ0.out HXD.out.size)
    clear HB0 HE0 HM0 HZ0 HXD
    obtain ⟨q0, q1, q2, q3, q4, q5, q6, q7, q8, q9⟩ := HED.out.c
    have hD := putEntry_is x A2 c2 wD (Kd.C_below HC2.out HBD.out) l2
    by_cases h2 : entryE x = 0
    · rw [h2, put_ent h2] at hD
      have HD := Lib.hid hD
      have HG1 := Lib.hid (getEntry_put h2)
      clear hD
      go_upto_region 9 with (first
        | (go_at_call 19; refine HD.out.mono ?_; rintro e w1 ⟨v, rfl, hr, hb⟩; obtain ⟨A6, k6, rfl, hk6, hC⟩ := BR.len hr; have HR1 := Lib.hid hC; have HK1 := Lib.hid hk6; have HX1 := Lib.hid hb; clear hr hb hC hk6)
        | (go_at_call 23; refine (getEntry_is w1 A6 k6 (entryB x) HR1.out HK1.out (entryB_bytes x)).mono ?_; rw [HG1.out]; rintro e w2 ⟨v, rfl, ⟨u, rfl, hr⟩, hb⟩; obtain ⟨A7, k7, rfl, l7, hC⟩ := TR.C hr; have HR2 := Lib.hid hC; have HX2 := Lib.hid (HX1.out.trans (hb.mono HX1.out.size)); clear hr hb hC))
      clear HD HG1 q0 q1 q2 q3 q4 q5 q6 q7 q8 q9
      obtain ⟨w4, hw4⟩ : ∃ w4, w2.alloc (entO x A7 k7) = w4 := ⟨_, rfl⟩
      have HN4 : Hid (EntC w4 w2.heap.size x.f0 x.f1 x.f2.f0 x.f2.f1 x.f2.f2 x.f2.f3 x.f2.f4 x.f2.f5 (.slice A7 x.f2.f6.length k7) x.f2.f7) := Lib.hid (by rw [← hw4]; exact World.alloc_heap_new w2 _)
      have hb4 : Below w2.heap.size w2 w4 := by rw [← hw4]; exact (Below.refl _ _).alloc (Nat.le_refl _) _
      rw [hw4]
      have HX4 := Lib.hid (HX2.out.trans (hb4.mono HX2.out.size))
      have HR4 := Lib.hid (Kd.C_below HR2.out hb4)
      have HE4 := Lib.hid (HED.out.below HX4.out)
      have HB4 := Lib.hid (HBD.out.trans (HX4.out.mono HBD.out.size))
      clear hw4 hb4
      obtain ⟨q0, q1, q2, q3, q4, q5, q6, q7, q8, q9⟩ := HE4.out.c
      have hV5 : EntC (w4.alloc (.cells #[.int .i64 x.f0, .int .i64 x.f1, .int .i64 x.f2.f0, .int .i64 x.f2.f1, .int .i64 x.f2.f2, .int .i64 x.f2.f3, .int .i64 x.f2.f4, .int .i64 x.f2.f5, .slice A2 x.f2.f6.length c2, .int .i64 x.f2.f7] 26)) w2.heap.size x.f0 x.f1 x.f2.f0 x.f2.f1 x.f2.f2 x.f2.f3 x.f2.f4 x.f2.f5 (.slice A7 x.f2.f6.length k7) x.f2.f7 := HN4.out.ne (((Below.refl _ _).alloc (Nat.le_refl _) _ : Below w4.heap.size w4 _).block _ HN4.out.lt)
      obtain ⟨v0, v1, v2, v3, v4, v5, v6, v7, v8, v9⟩ := hV5.cells
      clear hV5
      have HL5 : Hid (Below w4.heap.size w4 ((w4.alloc (entO x A2 c2)).alloc (entO x A7 k7))) := Lib.hid (((Below.refl _ _).alloc (Nat.le_refl _) _).alloc (by simp) _)
      have hS5 := entries16_yes ((w4.alloc (entO x A2 c2)).alloc (entO x A7 k7)) (some ⟨w4.heap.size, 0, none⟩) (some ⟨w4.heap.size + 1, 0, none⟩) 1 1 [x]
        (Kd.C_below (C_ent1 w4 x A2 c2 l2 (Kd.C_below HC2.out HB4.out)) ((Below.refl _ _).alloc (Nat.le_refl _) _))
        (by have h := C_ent1 (w4.alloc (entO x A2 c2)) x A7 k7 l7 (Kd.C_below HR4.out ((Below.refl _ _).alloc (Nat.le_refl _) _)); rwa [World.size_alloc] at h)
      have HS5 := Lib.hid hS5
      clear hS5
      go_upto_region 11 with (go_at_call 69; refine HS5.out.mono ?_; rintro e wE ⟨rfl, hb⟩; have HXE := Lib.hid (HX4.out.trans ((HL5.out.trans (hb.mono HL5.out.size)).mono HX4.out.size)); clear hb)
      clear q0 q1 q2 q3 q4 q5 q6 q7 q8 q9 v0 v1 v2 v3 v4 v5 v6 v7 v8 v9
      have HBE : Hid (Below w.heap.size w wE) := Lib.hid (HBD.out.trans (HXE.out.mono HBD.out.size))
      have HME := Lib.hid (HMD.out.below HXE.out)
      clear HBD HMD HED HZD
      obtain ⟨q0, q1, q2, q3⟩ := HME.out.c
      have hD := putMsg_is m A3 c3 wE (Kd.C_below HC3.out HBE.out) l3
      by_cases h3 : msgE m = 0
      · rw [h3, put_msg h3] at hD
        have HD := Lib.hid hD
        have HG1 := Lib.hid (getMsg_put h3)
        clear hD
        go_upto_region 14 with (first
          | (go_at_call 52; refine HD.out.mono ?_; rintro e w1 ⟨v, rfl, hr, hb⟩; obtain ⟨A6, k6, rfl, hk6, hC⟩ := BR.len hr; have HR1 := Lib.hid hC; have HK1 := Lib.hid hk6; have HX1 := Lib.hid hb; clear hr hb hC hk6)
          | (go_at_call 66; refine (getMsg_is w1 A6 k6 (msgB m) HR1.out HK1.out (msgB_bytes m)).mono ?_; rw [HG1.out]; rintro e w2 ⟨v, rfl, ⟨u, rfl, hr⟩, hb⟩; obtain ⟨A7, k7, rfl, l7, hC⟩ := ER.C hr; have HR2 := Lib.hid hC; have HX2 := Lib.hid (HX1.out.trans (hb.mono HX1.out.size)); clear hr hb hC))
        clear HD HG1 q0 q1 q2 q3
        obtain ⟨w4, hw4⟩ : ∃ w4, w2.alloc (msgO m A7 k7) = w4 := ⟨_, rfl⟩
        have HN4 : Hid (MsgC w4 w2.heap.size m.k m.who m.ver (.slice A7 m.l.length k7)) := Lib.hid (by rw [← hw4]; exact World.alloc_heap_new w2 _)
        have hb4 : Below w2.heap.size w2 w4 := by rw [← hw4]; exact (Below.refl _ _).alloc (Nat.le_refl _) _
        rw [hw4]
        have HX4 := Lib.hid (HX2.out.trans (hb4.mono HX2.out.size))
        have HM4 := Lib.hid (HME.out.below HX4.out)
        have HB4 := Lib.hid (HBE.out.trans (HX4.out.mono HBE.out.size))
        have HS5 := Lib.hid (message16_yes w4 A7 A3 k7 c3 m (Kd.C_below HR2.out hb4) (Kd.C_below HC3.out HB4.out))
        clear hw4 hb4
        obtain ⟨q0, q1, q2, q3⟩ := HM4.out.c
        obtain ⟨v0, v1, v2, v3⟩ := HN4.out.cells
        go_wp2_with (first
          | (go_at_call 70; refine HS5.out.mono ?_; rintro e w5 ⟨rfl, hb⟩; have HB5 := Lib.hid (HB4.out.trans (hb.mono HB4.out.size)); clear hb)
          | (go_at_call 47; refine (awake16_is _).mono ?_; rintro e w7 ⟨rfl, hb⟩; have HW7 := Lib.hid (HB5.out.trans (hb.mono HB5.out.size)); clear hb))
        go_ret
        exact ⟨rfl, HW7.out⟩
      · have hbe1 : (msgE m == 0) = false := by simpa using h3
        obtain ⟨e3, he3⟩ : ∃ e3, msgE m = e3 := ⟨_, rfl⟩
        rw [he3] at hD hbe1
        have HD := Lib.hid hD
        clear hD he3 h3
        go_wp2_with (first
          | (go_at_call 52; refine HD.out.mono ?_; rintro e w1 ⟨v, rfl, hr, hb⟩; obtain ⟨A6, k6, rfl, _, hC⟩ := BR.len hr; have HB5 := Lib.hid (HBE.out.trans (hb.mono HBE.out.size)); clear hr hb hC)
          | (go_at_call 47; refine (awake16_is _).mono ?_; rintro e w7 ⟨rfl, hb⟩; have HW7 := Lib.hid (HB5.out.trans (hb.mono HB5.out.size)); clear hb))
        go_ret
        exact ⟨rfl, HW7.out⟩
    · have hbe1 : (entryE x == 0) = false := by simpa using h2
      obtain ⟨e2, he2⟩ : ∃ e2, entryE x = e2 := ⟨_, rfl⟩
      rw [he2] at hD hbe1
      have HD := Lib.hid hD
      clear hD he2 h2
      go_upto_region 11 with (go_at_call 19; refine HD.out.mono ?_; rintro e wE ⟨v, rfl, hr, hb⟩; obtain ⟨A6, k6, rfl, _, hC⟩ := BR.len hr; have HXE := Lib.hid hb; clear hr hb hC)
      clear HD hbe1 q0 q1 q2 q3 q4 q5 q6 q7 q8 q9
      have HBE : Hid (Below w.heap.size w wE) := Lib.hid (HBD.out.trans (HXE.out.mono HBD.out.size))
      have HME := Lib.hid (HMD.out.below HXE.out)
      clear HBD HMD HED HZD
      obtain ⟨q0, q1, q2, q3⟩ := HME.out.c
      have hD := putMsg_is m A3 c3 wE (Kd.C_below HC3.out HBE.out) l3
      by_cases h3 : msgE m = 0
      · rw [h3, put_msg h3] at hD
        have HD := Lib.hid hD
        have HG1 := Lib.hid (getMsg_put h3)
        clear hD
        go_upto_region 14 with (first
          | (go_at_call 52; refine HD.out.mono ?_; rintro e w1 ⟨v, rfl, hr, hb⟩; obtain ⟨A6, k6, rfl, hk6, hC⟩ := BR.len hr; have HR1 := Lib.hid hC; have HK1 := Lib.hid hk6; have HX1 := Lib.hid hb; clear hr hb hC hk6)
          | (go_at_call 66; refine (getMsg_is w1 A6 k6 (msgB m) HR1.out HK1.out (msgB_bytes m)).mono ?_; rw [HG1.out]; rintro e w2 ⟨v, rfl, ⟨u, rfl, hr⟩, hb⟩; obtain ⟨A7, k7, rfl, l7, hC⟩ := ER.C hr; have HR2 := Lib.hid hC; have HX2 := Lib.hid (HX1.out.trans (hb.mono HX1.out.size)); clear hr hb hC))
        clear HD HG1 q0 q1 q2 q3
        obtain ⟨w4, hw4⟩ : ∃ w4, w2.alloc (msgO m A7 k7) = w4 := ⟨_, rfl⟩
        have HN4 : Hid (MsgC w4 w2.heap.size m.k m.who m.ver (.slice A7 m.l.length k7)) := Lib.hid (by rw [← hw4]; exact World.alloc_heap_new w2 _)
        have hb4 : Below w2.heap.size w2 w4 := by rw [← hw4]; exact (Below.refl _ _).alloc (Nat.le_refl _) _
        rw [hw4]
        have HX4 := Lib.hid (HX2.out.trans (hb4.mono HX2.out.size))
        have HM4 := Lib.hid (HME.out.below HX4.out)
        have HB4 := Lib.hid (HBE.out.trans (HX4.out.mono HBE.out.size))
        have HS5 := Lib.hid (message16_yes w4 A7 A3 k7 c3 m (Kd.C_below HR2.out hb4) (Kd.C_below HC3.out HB4.out))
        clear hw4 hb4
        obtain ⟨q0, q1, q2, q3⟩ := HM4.out.c
        obtain ⟨v0, v1, v2, v3⟩ := HN4.out.cells
        go_wp2_with (first
          | (go_at_call 70; refine HS5.out.mono ?_; rintro e w5 ⟨rfl, hb⟩; have HB5 := Lib.hid (HB4.out.trans (hb.mono HB4.out.size)); clear hb)
          | (go_at_call 47; refine (awake16_is _).mono ?_; rintro e w7 ⟨rfl, hb⟩; have HW7 := Lib.hid (HB5.out.trans (hb.mono HB5.out.size)); clear hb))
        go_ret
        exact ⟨rfl, HW7.out⟩
      · have hbe1 : (msgE m == 0) = false := by simpa using h3
        obtain ⟨e3, he3⟩ : ∃ e3, msgE m = e3 := ⟨_, rfl⟩
        rw [he3] at hD hbe1
        have HD := Lib.hid hD
        clear hD he3 h3
        go_wp2_with (first
          | (go_at_call 52; refine HD.out.mono ?_; rintro e w1 ⟨v, rfl, hr, hb⟩; obtain ⟨A6, k6, rfl, _, hC⟩ := BR.len hr; have HB5 := Lib.hid (HBE.out.trans (hb.mono HBE.out.size)); clear hr hb hC)
          | (go_at_call 47; refine (awake16_is _).mono ?_; rintro e w7 ⟨rfl, hb⟩; have HW7 := Lib.hid (HB5.out.trans (hb.mono HB5.out.size)); clear hb))
        go_ret
        exact ⟨rfl, HW7.out⟩
end Go.Proofs.Ytmbnjgnmblgjoaa.Man
