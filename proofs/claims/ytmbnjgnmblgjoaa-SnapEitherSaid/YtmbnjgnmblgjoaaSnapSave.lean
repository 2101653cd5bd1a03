/- A store's Save (layer 30), where its frame has room: up to one of its writes. -/
import Derived.Test.YtmbnjgnmblgjoaaSnapActs
namespace Go.Proofs.Ytmbnjgnmblgjoaa.Man
open Go.RowKit Go.Proofs.YtmbnjgnmblgjoaaW.PrintWords Go.Proofs.YtmbnjgnmblgjoaaW.PrintLast Go.Proofs.YtmbnjgnmblgjoaaW.PrintMore
set_option linter.unusedVariables false
set_option linter.unusedSimpArgs false
set_option maxRecDepth 100000

theorem fidx0 (c0 c1 c2 : Value) (W : World) : (Instr.index 170 (.agg #[c0, c1, c2]) (.int .i64 0)).run Try.prog W = .ok c0 W := by kernel_rfl
theorem fidx1 (c0 c1 c2 : Value) (W : World) : (Instr.index 170 (.agg #[c0, c1, c2]) (.int .i64 1)).run Try.prog W = .ok c1 W := by kernel_rfl
theorem fidx2 (c0 c1 c2 : Value) (W : World) : (Instr.index 170 (.agg #[c0, c1, c2]) (.int .i64 2)).run Try.prog W = .ok c2 W := by kernel_rfl
theorem findex_ev {ops : Array Oper} {rest : List Oper} {o : Oper} {a : Act} {Q : Exit → Act → World → Prop} {w : World} (hgd : o.guard = none) (x i : Operand) (ho : o.op = .index 170 x i) {cs : Array Value} {k : Int} {v : Value}
    (hx : a.eval x = .agg cs) (hi : a.eval i = .int .i64 k) (hr : (Instr.index 170 (.agg cs) (.int .i64 k)).run Try.prog w = .ok v w) (h : wpList Try.prog ops Q rest (a.put o.dst v) w) : wpList Try.prog ops Q (o :: rest) a w := by
  refine Kd.event_run hgd ?_ h
  unfold execOp
  rw [ho]
  simp [hx, hi, hr]

/-- A disk behind so many of a save's writes. -/
def stepL (zs f : List Int) (k : Nat) : List Int := match k with | 0 => zs | 1 => [] | _ => f
def stepS (s : Int) (f : List Int) (k : Nat) : Int := match k with | 0 => s | 1 => 0 | 2 => 0 | _ => (f.length : Int)

def SaveAt (w : World) (P B : Nat) (A : Option Addr) (n c : Nat) : Prop := w.heap[P]? = some (.cells #[.pointer (some ⟨B, 0, none⟩), .slice A n c] 169 (0, 0))
theorem SaveAt.c0 {w : World} {P B n c : Nat} {A : Option Addr} (k : SaveAt w P B A n c) : w.cell? ⟨P, 0, none⟩ = some (.pointer (some ⟨B, 0, none⟩)) := by simp [World.cell?, show w.heap[P]? = _ from k]
theorem SaveAt.c1 {w : World} {P B n c : Nat} {A : Option Addr} (k : SaveAt w P B A n c) : w.cell? ⟨P, 1, none⟩ = some (.slice A n c) := by simp [World.cell?, show w.heap[P]? = _ from k]
theorem SaveAt.lt {w : World} {P B n c : Nat} {A : Option Addr} (k : SaveAt w P B A n c) : P < w.heap.size := (Array.getElem?_eq_some_iff.1 k).1
theorem SaveAt.below {w w1 : World} {P B n c m : Nat} {A : Option Addr} (k : SaveAt w P B A n c) (h : Below m w w1) (hm : P < m) : SaveAt w1 P B A n c := (h.block P hm).trans k

set_option maxHeartbeats 16000000 in
theorem save_is {w : World} {S BX BY : Nat} (hS : StoreS w S BX BY) (h : Held) (o : Int) (hn : Calls Try.prog 114 #[.pointer (some ⟨S, 0, none⟩)] w (NewPost w h o))
    {base BT : Nat} {v : Value} {zs : List Int} {s m : Int} (hT : DiskS w base BT v zs s m) (ho : (o = 0 ∧ BT = BX) ∨ (o = 1 ∧ BT = BY)) (A0 : Option Addr) (c0 : Nat) (b : List Int) (hb : Kd.C (Kd.int .u8) w A0 b.length b) (hB : areBytesN b = true) (hl : b.length ≤ 4000)
    (g : Nat) (hg : h.2.1 = (g : Int)) (hg1 : g < 1000) (stop keep : Int) (hs0 : 0 ≤ stop) (hs1 : stop < 9223372036854775808) (hmm : ((frameF (vb (g + 1) ++ b)).length : Int) ≤ m) (hk0 : 0 ≤ keep) (hk1 : keep ≤ 9223372036854775807) :
    Calls Try.prog 55 #[.pointer (some ⟨S, 0, none⟩), .slice A0 b.length c0, .int .i64 stop, .int .i64 keep] w fun e w' => e = .returned (.int .i64 0) ∧ ∃ v', DStep w w' BT v v' ∧
      ((stop < 3 ∧ DiskS w' base BT v' (crL (stepL zs (frameF (vb (g + 1) ++ b)) stop.toNat) (stepS s (frameF (vb (g + 1) ++ b)) stop.toNat) keep) (crS (stepL zs (frameF (vb (g + 1) ++ b)) stop.toNat) (stepS s (frameF (vb (g + 1) ++ b)) stop.toNat) keep) m) ∨
       (3 ≤ stop ∧ DiskS w' base BT v' (frameF (vb (g + 1) ++ b)) ((frameF (vb (g + 1) ++ b)).length : Int) m)) := by
  obtain ⟨st, rfl⟩ : ∃ st : Nat, stop = (st : Int) := ⟨stop.toNat, by omega⟩
  rw [Int.toNat_natCast]
  clear hs0 hs1
  have hbase : base ≤ w.heap.size := by have := hT.at_; have := hT.cells.lt; omega
  have hSl := hS.lt
  have HS := Lib.hid hS
  have HN := Lib.hid hn
  have HT := Lib.hid hT
  have HBC := Lib.hid hb
  have HBB := Lib.hid hB
  have hv2 : (vb (g + 1)).length ≤ 2 := vb_length_le 1 (g + 1) (by omega)
  have hfb : areBytesN (vb (g + 1) ++ b) = true := areBytesN_append (vb_bytes _) hB
  have hfl := frameF_length (vb (g + 1) ++ b)
  have hvl : (vb (vb (g + 1) ++ b).length).length ≤ 2 := vb_length_le 1 _ (by rw [List.length_append]; omega)
  have hll : (vb (g + 1) ++ b).length = (vb (g + 1)).length + b.length := List.length_append
  have hwr : wrapF (vb (g + 1) ++ b) = (frameF (vb (g + 1) ++ b), 0) := by unfold wrapF; rw [if_neg (by omega)]
  obtain ⟨n, hn1⟩ : ∃ n, n = g + 1 := ⟨_, rfl⟩
  rw [← hn1] at hv2 hfb hfl hvl hll hwr hmm ⊢
  obtain ⟨vg, hvg⟩ : ∃ vg, vb n = vg := ⟨_, rfl⟩
  rw [hvg] at hv2 hfb hfl hvl hll hwr hmm ⊢
  have HVG := Lib.hid hvg
  obtain ⟨in_, hin⟩ : ∃ x, vg ++ b = x := ⟨_, rfl⟩
  rw [hin] at hfb hfl hvl hll hwr hmm ⊢
  have HIN := Lib.hid hin
  obtain ⟨f, hf⟩ : ∃ f, frameF in_ = f := ⟨_, rfl⟩
  rw [hf] at hfl hwr hmm ⊢
  have HFB := Lib.hid hfb
  have HWR := Lib.hid hwr
  have hfm : f.length ≤ 4010 := by omega
  obtain ⟨hb_, hgi, hi⟩ := h
  simp only at hg HN
  subst hg
  clear hS hn hT hb hB hvg hin hf hfb hwr hfl hvl
  have hU : IntKind.u64.wrap ((g : Int) + 1) = (n : Int) := by rw [IntKind.wrap_u64]; omega
  have hn0 : ((n : Int) == 0) = false := by simp; omega
  have hn2 : n ≤ 1000 := by omega
  have hil : in_.length ≤ 4002 := by omega
  clear hn1 hll
  go_enter Try.func55, Try.ntmps55
  go_upto_region 7 with (first
    | (go_at_call 113; refine (snone_is HS.out).mono ?_; rintro e w' ⟨rfl, rfl⟩)
    | (go_at_call 114; refine HN.out.mono ?_; rintro e w1 ⟨A1, k1, rfl, hc, hb⟩; unfold hval; have HB1 := Lib.hid hb; clear hc hb))
  obtain ⟨w2, hw2⟩ : ∃ w2, w1.alloc (.cells #[.slice A1 hb_.length k1, .int .u64 g, .bool hi] 165) = w2 := ⟨_, rfl⟩
  have hb2 : Below w1.heap.size w1 w2 := by rw [← hw2]; exact (Below.refl _ _).alloc (Nat.le_refl _) _
  have k9 : HeldAt w2 w1.heap.size (.slice A1 hb_.length k1) (.int .u64 g) (.bool hi) := by rw [← hw2]; exact World.alloc_heap_new w1 _
  rw [hw2]
  clear hw2
  have K9 := Lib.hid k9
  have HB2 := Lib.hid (HB1.out.trans (hb2.mono HB1.out.size))
  have z1 := k9.c1
  have HBX := Lib.hid (C_box w2 .u64 (n : Int) 90)
  have hbe : Below w2.heap.size w2 (w2.alloc (.cells #[.int .u64 (n : Int)] 90)) := (Below.refl _ _).alloc (Nat.le_refl _) _
  have HBE := Lib.hid hbe
  have HNil := Lib.hid (C_nil (w2.alloc (.cells #[.int .u64 (n : Int)] 90)) .u8)
  clear k9 hb2 hbe
  go_upto_region 10 with (first
    | (go_at_call 89; refine (put_any none (some ⟨w2.heap.size, 0, none⟩) 0 1 [] [(n : Int)] _ HNil.out HBX.out (u64_one n (by omega)) (by rw [vbs_one, HVG.out, List.nil_append]; omega)).mono ?_; rintro e w3 ⟨v3, rfl, hr, hb⟩; rw [vbs_one, HVG.out, List.nil_append] at hr; obtain ⟨A3, k3, rfl, _, _⟩ := BR.len hr; have HR3 := Lib.hid (Kd.R_lower hr HBE.out.size); have HX3 := Lib.hid (HBE.out.trans (hb.mono HBE.out.size)); clear hr hb)
    | (at_builtin; refine BR.append_ev (w := w3) (base := w2.heap.size) HR3.out (Kd.C_below (Kd.C_below HBC.out HB2.out) HX3.out) rfl (.tmp 34) (.tmp 35) rfl rfl rfl HX3.out.size (by omega) ?_; intro v4 w4 hr hb hat; rw [HIN.out] at hr; obtain ⟨A4, k4, rfl, _, hC4⟩ := BR.len hr; have HC4 := Lib.hid hC4; have HX4 := Lib.hid (HX3.out.trans hb); clear hr hb hat hC4)
    | (go_at_call 21; refine (wrap_any A4 k4 in_ w4 HC4.out HFB.out).mono ?_; rintro e w5 ⟨v5, rfl, hr, hb⟩; rw [HWR.out] at hr; rw [HWR.out]; have HR5 := Lib.hid hr; obtain ⟨A5, k5, rfl, hk5, hC5⟩ := BR.len hr; have HC5 := Lib.hid hC5; have HZ4 := Lib.hid (Nat.le_trans HB2.out.size HX4.out.size); have HX5 := Lib.hid (HX4.out.trans (hb.mono HX4.out.size)); have HB5 := Lib.hid (HB2.out.trans (HX5.out.mono HB2.out.size)); have k9 := K9.out.below HX5.out K9.out.lt; have z1 := k9.c1; have K95 := Lib.hid k9; clear hr hb hC5 k9))
  clear HBX HBE HNil HR3 HX3 HC4 HX4 hv2
  have hs5 := HS.out.below HB5.out hSl
  have sc0 := hs5.c0
  have sc1 := hs5.c1
  clear hs5
  have hk6 : SaveAt (w5.alloc (.cells #[.pointer (some ⟨BT, 0, none⟩), .slice A5 f.length k5] 169)) w5.heap.size BT A5 f.length k5 := World.alloc_heap_new w5 _
  have hb6 : Below w5.heap.size w5 (w5.alloc (.cells #[.pointer (some ⟨BT, 0, none⟩), .slice A5 f.length k5] 169)) := (Below.refl _ _).alloc (Nat.le_refl _) _
  obtain ⟨w6, hw6⟩ : ∃ w6, w5.alloc (.cells #[.pointer (some ⟨BT, 0, none⟩), .slice A5 f.length k5] 169) = w6 := ⟨_, rfl⟩
  rw [hw6] at hk6 hb6
  have HW6 := Lib.hid hw6
  have HK6 := Lib.hid hk6
  have HB6 := Lib.hid hb6
  have HT6 := Lib.hid (HT.out.below (HB5.out.trans (hb6.mono HB5.out.size)) (Nat.le_refl _))
  have HC6 := Lib.hid (Kd.C_below HC5.out hb6)
  have k9 := K95.out.below hb6 K95.out.lt
  have z1' := k9.c1
  have HBT : Hid (BT < w.heap.size ∧ w.heap.size ≤ w5.heap.size ∧ ∀ k, v.ownBlock = some k → k < w.heap.size) := Lib.hid ⟨HT.out.cells.lt, HB5.out.size, fun k hk => (HT.out.row.block hk).2.1⟩
  have HA5 : Hid (∀ ad, A5 = some ad → w.heap.size ≤ ad.block ∧ ad.block < w5.heap.size) := Lib.hid fun ad e => by
    have e2 : Value.ownBlock (.slice A5 f.length k5) = some ad.block := by rw [e]; rfl
    exact ⟨Nat.le_trans HZ4.out (BR.base HR5.out e2), own_lt (Kd.own_of_R HR5.out) _ e2⟩
  have c60 := hk6.c0
  have c61 := hk6.c1
  clear hk6 hb6 hw6 k9
  rcases ho with ⟨rfl, rfl⟩ | ⟨rfl, rfl⟩
  all_goals
    go_upto_region 11 with (fail)
    rw [HW6.out]
    go_upto_region 13 with (go_at_call 115; refine (sroom_is HT6.out A5 k5 f HC6.out (by omega)).mono ?_; rintro e w7 ⟨rfl, hb⟩; have HB7 := Lib.hid hb; have hk7 := HK6.out.below hb HK6.out.lt; have c70 := hk7.c0; have c71 := hk7.c1; have HK7 := Lib.hid hk7; clear hb hk7)
    have HT7 := Lib.hid (HT6.out.below HB7.out (Nat.le_refl _))
    have HB57 := Lib.hid (HB6.out.trans (HB7.out.mono HB6.out.size))
    have HC7 := Lib.hid (Kd.C_below HC6.out HB7.out)
    have HST := HBT.out
    have hmv : ∀ wr v', DStep w7 wr BT v v' → SaveAt wr w5.heap.size BT A5 f.length k5 ∧ Kd.C (Kd.int .u8) wr A5 f.length f := fun wr v' hd => by
      obtain ⟨q1, q2, q3⟩ := HBT.out
      have q4 := HK7.out.lt
      have q5 := HB57.out.size
      refine ⟨(hd.block _ q4 (by omega) (fun e => by have := q3 _ e.symm; omega)).trans HK7.out, C_moveK HC7.out fun ad e => ?_⟩
      obtain ⟨r1, r2⟩ := HA5.out ad e
      exact hd.block _ (by omega) (by omega) (fun e => by have := q3 _ e.symm; omega)
    have HMV := Lib.hid hmv
    have HD0 := Lib.hid (DStep.of_below BT v (HB5.out.trans (HB57.out.mono HB5.out.size)))
    clear hmv HST sc0 sc1 z1 z1'
    go_wp2_with (fail)
    go_loopg [66] 4 (fun gg s66 wr => ∃ i : Nat, s66 = .int .i64 i ∧ i ≤ 3 ∧ gg = 4 - i ∧ Hid (∃ v', DiskS wr base BT v' (stepL zs f (min i st)) (stepS s f (min i st)) m ∧ DStep w7 wr BT v v'))
    case atStart => exact ⟨0, rfl, by omega, rfl, Lib.hid ⟨v, by rw [Nat.zero_min]; exact HT7.out, DStep.refl _ _ _⟩⟩
    case round =>
      obtain ⟨i, rfl, hi3, hgg, HI⟩ := hrel
      obtain ⟨v', HD⟩ : ∃ v', Hid (DiskS wr base BT v' (stepL zs f (min i st)) (stepS s f (min i st)) m ∧ DStep w7 wr BT v v') := ⟨HI.out.choose, Lib.hid HI.out.choose_spec⟩
      have hfi0 := fidx0 (.func (.func 116) #[.agg #[.pointer (some ⟨BT, 0, none⟩), .slice A5 f.length k5]] #[]) (.func (.func 117) #[.agg #[.pointer (some ⟨BT, 0, none⟩), .slice A5 f.length k5]] #[]) (.func (.func 118) #[.agg #[.pointer (some ⟨BT, 0, none⟩), .slice A5 f.length k5]] #[]) wr
      have hfi1 := fidx1 (.func (.func 116) #[.agg #[.pointer (some ⟨BT, 0, none⟩), .slice A5 f.length k5]] #[]) (.func (.func 117) #[.agg #[.pointer (some ⟨BT, 0, none⟩), .slice A5 f.length k5]] #[]) (.func (.func 118) #[.agg #[.pointer (some ⟨BT, 0, none⟩), .slice A5 f.length k5]] #[]) wr
      have hfi2 := fidx2 (.func (.func 116) #[.agg #[.pointer (some ⟨BT, 0, none⟩), .slice A5 f.length k5]] #[]) (.func (.func 117) #[.agg #[.pointer (some ⟨BT, 0, none⟩), .slice A5 f.length k5]] #[]) (.func (.func 118) #[.agg #[.pointer (some ⟨BT, 0, none⟩), .slice A5 f.length k5]] #[]) wr
      have HF0 := Lib.hid hfi0
      have HF1 := Lib.hid hfi1
      have HF2 := Lib.hid hfi2
      clear HI hfi0 hfi1 hfi2
      by_cases hi : i < 3
      · by_cases hst : i < st
        · have hm0 : min i st = i := by omega
          have hm1 : min (i + 1) st = i + 1 := by omega
          rw [hm0] at HD
          have HM1 := Lib.hid hm1
          clear hm0 hm1
          rcases (show i = 0 ∨ i = 1 ∨ i = 2 by omega) with rfl | rfl | rfl
          · go_wp2_with (first
              | (refine findex_ev rfl _ _ rfl rfl rfl HF0.out ?_)
              | (go_at_call 116; refine (scut_is HD.out.1 A5 f.length k5).mono ?_; rintro e w8 ⟨rfl, v8, hd, hs⟩; have HD8 := Lib.hid hd; have HS8 := Lib.hid (HD.out.2.trans hs); clear hd hs))
            go_roundg 3
            case measure => omega
            case rel => exact ⟨1, by go_num, by omega, rfl, Lib.hid ⟨v8, by rw [HM1.out]; exact HD8.out, HS8.out⟩⟩
          · go_wp2_with (first
              | (refine findex_ev rfl _ _ rfl rfl rfl HF1.out ?_)
              | (go_at_call 117; refine (swrite_is HD.out.1 A5 k5 f (HMV.out _ _ HD.out.2).2 (by omega)).mono ?_; rintro e w8 ⟨rfl, v8, hd, hs⟩; have HD8 := Lib.hid hd; have HS8 := Lib.hid (HD.out.2.trans hs); clear hd hs))
            go_roundg 2
            case measure => omega
            case rel => exact ⟨2, by go_num, by omega, rfl, Lib.hid ⟨v8, by rw [HM1.out]; exact HD8.out, HS8.out⟩⟩
          · go_wp2_with (first
              | (refine findex_ev rfl _ _ rfl rfl rfl HF2.out ?_)
              | (go_at_call 118; refine (ssync_is HD.out.1 A5 f.length k5).mono ?_; rintro e w8 ⟨rfl, v8, hd, hs⟩; have HD8 := Lib.hid hd; have HS8 := Lib.hid (HD.out.2.trans hs); clear hd hs))
            go_roundg 1
            case measure => omega
            case rel => exact ⟨3, by go_num, by omega, rfl, Lib.hid ⟨v8, by rw [HM1.out]; exact HD8.out, HS8.out⟩⟩
        · have hm1 : min (i + 1) st = min i st := by omega
          have HM1 := Lib.hid hm1
          clear hm1
          rcases (show i = 0 ∨ i = 1 ∨ i = 2 by omega) with rfl | rfl | rfl
          · go_wp2_with (refine findex_ev rfl _ _ rfl rfl rfl HF0.out ?_)
            go_roundg 3
            case measure => omega
            case rel => exact ⟨1, by go_num, by omega, rfl, Lib.hid ⟨v', by have := HM1.out; simp only [Nat.zero_add] at this; rw [this]; exact HD.out.1, HD.out.2⟩⟩
          · go_wp2_with (refine findex_ev rfl _ _ rfl rfl rfl HF1.out ?_)
            go_roundg 2
            case measure => omega
            case rel => exact ⟨2, by go_num, by omega, rfl, Lib.hid ⟨v', by rw [HM1.out]; exact HD.out.1, HD.out.2⟩⟩
          · go_wp2_with (refine findex_ev rfl _ _ rfl rfl rfl HF2.out ?_)
            go_roundg 1
            case measure => omega
            case rel => exact ⟨3, by go_num, by omega, rfl, Lib.hid ⟨v', by rw [HM1.out]; exact HD.out.1, HD.out.2⟩⟩
      · obtain rfl : i = 3 := by omega
        have hk8 := (HMV.out _ _ HD.out.2).1
        have c80 := hk8.c0
        clear hk8
        by_cases hst : st < 3
        · have hm0 : min 3 st = st := by omega
          rw [hm0] at HD
          clear hm0
          go_wp2_with (go_at_call 33; refine (crash_any HD.out.1 keep hk1).mono ?_; rintro e w9 ⟨rfl, v9, hd, hs⟩; have HD9 := Lib.hid hd; have HS9 := Lib.hid (HD0.out.trans (HD.out.2.trans hs)); clear hd hs)
          go_ret
          exact ⟨rfl, v9, HS9.out, .inl ⟨by omega, HD9.out⟩⟩
        · have hm0 : min 3 st = 3 := by omega
          rw [hm0] at HD
          clear hm0
          go_wp2_with (fail)
          go_ret
          exact ⟨rfl, v', HD0.out.trans HD.out.2, .inr ⟨by omega, HD.out.1⟩⟩
end Go.Proofs.Ytmbnjgnmblgjoaa.Man
