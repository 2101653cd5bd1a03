/- JournalPlays (Upto): any acts (Append, Sync, Crash, Cut) on a journal over a disk that held any bytes tell, act by act, what the document's journal tells. Conditions: the statement's own, no others. -/
-- Laid together by a program of this session (wip/tools/shake.py). Not trusted: Lean checks it.
import Derived.Test.YtmbnjgnmblgjoaaJp4
section
namespace Go.Proofs.Ytmbnjgnmblgjoaa.K
open Go.RowKit Go.Proofs.YtmbnjgnmblgjoaaW.PrintWords Go.Proofs.YtmbnjgnmblgjoaaW.PrintLast Go.Proofs.YtmbnjgnmblgjoaaW.PrintMore
attribute [local go_sem] max2_int min2_int max_two min_two max_three min_three max_four min_four
set_option linter.unusedVariables false
set_option linter.unusedSimpArgs false
def emenderref16_check.f (k : Nat) (a0_0 : Int) (a0_1 : Int) (a0_2 : Int) (a0_3 : Int) (a0_4 : Int) (a0_5 : Int) (a0_6 : Int) (a0_7 : Int) (l0_8 : List (S111)) (a0_9 : Int) : Option (Int) := if a0_0 < 0 then (some 1) else (if a0_0 ≥ 4 then (some 1) else (if a0_1 < 0 then (some 1) else (if a0_1 > 2147483647 then (some 1) else ((emenderref09_Check.f k a0_2 a0_3 a0_4 a0_5 a0_6 a0_7 l0_8 a0_9).bind fun t133 => (some t133)))))
set_option maxHeartbeats 8000000 in
set_option maxRecDepth 100000 in
theorem emenderref16_check.calls (k : Nat) (a0_0 : Int) (a0_1 : Int) (a0_2 : Int) (a0_3 : Int) (a0_4 : Int) (a0_5 : Int) (a0_6 : Int) (a0_7 : Int) (A0_8 : Option Addr) (c0_8 : Nat) (l0_8 : List (S111)) (a0_9 : Int) (r : Int) (w : World) (hr0_8 : Kd.C k111 w A0_8 l0_8.length l0_8) (hc0_8 : l0_8.length ≤ c0_8) (h : emenderref16_check.f k a0_0 a0_1 a0_2 a0_3 a0_4 a0_5 a0_6 a0_7 l0_8 a0_9 = some r) :
 Calls Try.prog 107 #[.agg #[.int .i64 a0_0, .int .i64 a0_1, .int .i64 a0_2, .int .i64 a0_3, .int .i64 a0_4, .int .i64 a0_5, .int .i64 a0_6, .int .i64 a0_7, .slice A0_8 l0_8.length c0_8, .int .i64 a0_9]] w fun e w' => e = .returned (.int .i64 r) ∧ Below w.heap.size w w' := by
 have hu26 := Try.underlying26
 have hu24 := Try.underlying24
 have HR0_8 := Aside0.mk hr0_8
 have HC0_8 := Aside0.mk hc0_8
 clear hr0_8 hc0_8
 have HB := Aside0.mk (Below.refl w.heap.size w)
 have H : (if a0_0 < 0 then (some 1) else (if a0_0 ≥ 4 then (some 1) else (if a0_1 < 0 then (some 1) else (if a0_1 > 2147483647 then (some 1) else ((emenderref09_Check.f k a0_2 a0_3 a0_4 a0_5 a0_6 a0_7 l0_8 a0_9).bind fun t133 => (some t133)))))) = some r := h
 clear h
 by_cases c2 : a0_0 < 0
 · rw [if_pos c2] at H
   have c2b0 : decide (a0_0 < 0) = true := decide_eq_true c2
   clear c2
   obtain rfl := Option.some.inj H
   go_enter Try.func107, Try.ntmps107
   go_wp2_with (first | ((with_reducible refine gate_dst (N := 1) rfl ?_); refine box_event ?hg (N := 1) ?hd (cs := #[.int .i64 a0_0, .int .i64 a0_1, .int .i64 a0_2, .int .i64 a0_3, .int .i64 a0_4, .int .i64 a0_5, .int .i64 a0_6, .int .i64 a0_7, .slice A0_8 l0_8.length c0_8, .int .i64 a0_9]) (t := 26) ?hr ?_; (case hd => rfl); (case hg => rfl); (case hr => first | (go_simp; done) | (go_simp; rfl)); intro gb132 hg w3 hbox hb; have n0_ := Aside0.mk (below_step (by repeat (first | (with_reducible first | exact HB.out | apply below_alloc | apply pw_below_drewN | apply below_drew1) | exact HB.out)) hb); have n1_ := Aside0.mk (hbox); have n2_ := Aside0.mk ((by rw [hg]; exact (below_size (by repeat (first | (with_reducible first | exact HB.out | apply below_alloc | apply pw_below_drewN | apply below_drew1) | exact HB.out))) : w.heap.size ≤ gb132)); have n3_ := Aside0.mk ((by rw [hg]; exact (below_size (by repeat (first | (with_reducible first | exact HB.out | apply below_alloc | apply pw_below_drewN | apply below_drew1) | exact HB.out))) : w.heap.size ≤ gb132)); clear HB; have HB := n0_; have BK132 := n1_; have GW132 := n2_; have GE132 := n3_; clear n0_ n1_ n2_ n3_; clear hb hbox hg; have hcz4_0 : w3.cell? ⟨gb132, 0, none⟩ = some (.int .i64 a0_0) := (blk_cell BK132.out 0).trans rfl; have hcz4_1 : w3.cell? ⟨gb132, 1, none⟩ = some (.int .i64 a0_1) := (blk_cell BK132.out 1).trans rfl; have hcz4_2 : w3.cell? ⟨gb132, 2, none⟩ = some (.int .i64 a0_2) := (blk_cell BK132.out 2).trans rfl; have hcz4_3 : w3.cell? ⟨gb132, 3, none⟩ = some (.int .i64 a0_3) := (blk_cell BK132.out 3).trans rfl; have hcz4_4 : w3.cell? ⟨gb132, 4, none⟩ = some (.int .i64 a0_4) := (blk_cell BK132.out 4).trans rfl; have hcz4_5 : w3.cell? ⟨gb132, 5, none⟩ = some (.int .i64 a0_5) := (blk_cell BK132.out 5).trans rfl; have hcz4_6 : w3.cell? ⟨gb132, 6, none⟩ = some (.int .i64 a0_6) := (blk_cell BK132.out 6).trans rfl; have hcz4_7 : w3.cell? ⟨gb132, 7, none⟩ = some (.int .i64 a0_7) := (blk_cell BK132.out 7).trans rfl; have hcz4_8 : w3.cell? ⟨gb132, 8, none⟩ = some (.slice A0_8 l0_8.length c0_8) := (blk_cell BK132.out 8).trans rfl; have hcz4_9 : w3.cell? ⟨gb132, 9, none⟩ = some (.int .i64 a0_9) := (blk_cell BK132.out 9).trans rfl; have hfz4_0 := blk_frozen BK132.out 0; have hfz4_1 := blk_frozen BK132.out 1; have hfz4_2 := blk_frozen BK132.out 2; have hfz4_3 := blk_frozen BK132.out 3; have hfz4_4 := blk_frozen BK132.out 4; have hfz4_5 := blk_frozen BK132.out 5; have hfz4_6 := blk_frozen BK132.out 6; have hfz4_7 := blk_frozen BK132.out 7; have hfz4_8 := blk_frozen BK132.out 8; have hfz4_9 := blk_frozen BK132.out 9))
   go_ret
   exact ⟨by first | rfl | (simp [errW_none, errW_some] <;> rfl) | (simp [*, errW_none, errW_some] <;> rfl), by repeat (first | (with_reducible first | exact HB.out | apply below_alloc | apply pw_below_drewN | apply below_drew1 | refine below_set ?_ GE132.out) | exact HB.out)⟩
 · rw [if_neg c2] at H
   have c2b0 : decide (a0_0 < 0) = false := decide_eq_false c2
   clear c2
   by_cases c5 : a0_0 ≥ 4
   · rw [if_pos c5] at H
     have c5b0 : decide (4 ≤ a0_0) = true := decide_eq_true c5
     clear c5
     obtain rfl := Option.some.inj H
     go_enter Try.func107, Try.ntmps107
     go_wp2_with (first | ((with_reducible refine gate_dst (N := 1) rfl ?_); refine box_event ?hg (N := 1) ?hd (cs := #[.int .i64 a0_0, .int .i64 a0_1, .int .i64 a0_2, .int .i64 a0_3, .int .i64 a0_4, .int .i64 a0_5, .int .i64 a0_6, .int .i64 a0_7, .slice A0_8 l0_8.length c0_8, .int .i64 a0_9]) (t := 26) ?hr ?_; (case hd => rfl); (case hg => rfl); (case hr => first | (go_simp; done) | (go_simp; rfl)); intro gb132 hg w6 hbox hb; have n0_ := Aside0.mk (below_step (by repeat (first | (with_reducible first | exact HB.out | apply below_alloc | apply pw_below_drewN | apply below_drew1) | exact HB.out)) hb); have n1_ := Aside0.mk (hbox); have n2_ := Aside0.mk ((by rw [hg]; exact (below_size (by repeat (first | (with_reducible first | exact HB.out | apply below_alloc | apply pw_below_drewN | apply below_drew1) | exact HB.out))) : w.heap.size ≤ gb132)); have n3_ := Aside0.mk ((by rw [hg]; exact (below_size (by repeat (first | (with_reducible first | exact HB.out | apply below_alloc | apply pw_below_drewN | apply below_drew1) | exact HB.out))) : w.heap.size ≤ gb132)); clear HB; have HB := n0_; have BK132 := n1_; have GW132 := n2_; have GE132 := n3_; clear n0_ n1_ n2_ n3_; clear hb hbox hg; have hcz7_0 : w6.cell? ⟨gb132, 0, none⟩ = some (.int .i64 a0_0) := (blk_cell BK132.out 0).trans rfl; have hcz7_1 : w6.cell? ⟨gb132, 1, none⟩ = some (.int .i64 a0_1) := (blk_cell BK132.out 1).trans rfl; have hcz7_2 : w6.cell? ⟨gb132, 2, none⟩ = some (.int .i64 a0_2) := (blk_cell BK132.out 2).trans rfl; have hcz7_3 : w6.cell? ⟨gb132, 3, none⟩ = some (.int .i64 a0_3) := (blk_cell BK132.out 3).trans rfl; have hcz7_4 : w6.cell? ⟨gb132, 4, none⟩ = some (.int .i64 a0_4) := (blk_cell BK132.out 4).trans rfl; have hcz7_5 : w6.cell? ⟨gb132, 5, none⟩ = some (.int .i64 a0_5) := (blk_cell BK132.out 5).trans rfl; have hcz7_6 : w6.cell? ⟨gb132, 6, none⟩ = some (.int .i64 a0_6) := (blk_cell BK132.out 6).trans rfl; have hcz7_7 : w6.cell? ⟨gb132, 7, none⟩ = some (.int .i64 a0_7) := (blk_cell BK132.out 7).trans rfl; have hcz7_8 : w6.cell? ⟨gb132, 8, none⟩ = some (.slice A0_8 l0_8.length c0_8) := (blk_cell BK132.out 8).trans rfl; have hcz7_9 : w6.cell? ⟨gb132, 9, none⟩ = some (.int .i64 a0_9) := (blk_cell BK132.out 9).trans rfl; have hfz7_0 := blk_frozen BK132.out 0; have hfz7_1 := blk_frozen BK132.out 1; have hfz7_2 := blk_frozen BK132.out 2; have hfz7_3 := blk_frozen BK132.out 3; have hfz7_4 := blk_frozen BK132.out 4; have hfz7_5 := blk_frozen BK132.out 5; have hfz7_6 := blk_frozen BK132.out 6; have hfz7_7 := blk_frozen BK132.out 7; have hfz7_8 := blk_frozen BK132.out 8; have hfz7_9 := blk_frozen BK132.out 9))
     go_ret
     exact ⟨by first | rfl | (simp [errW_none, errW_some] <;> rfl) | (simp [*, errW_none, errW_some] <;> rfl), by repeat (first | (with_reducible first | exact HB.out | apply below_alloc | apply pw_below_drewN | apply below_drew1 | refine below_set ?_ GE132.out) | exact HB.out)⟩
   · rw [if_neg c5] at H
     have c5b0 : decide (4 ≤ a0_0) = false := decide_eq_false c5
     clear c5
     by_cases c8 : a0_1 < 0
     · rw [if_pos c8] at H
       have c8b0 : decide (a0_1 < 0) = true := decide_eq_true c8
       clear c8
       obtain rfl := Option.some.inj H
       go_enter Try.func107, Try.ntmps107
       go_wp2_with (first | ((with_reducible refine gate_dst (N := 1) rfl ?_); refine box_event ?hg (N := 1) ?hd (cs := #[.int .i64 a0_0, .int .i64 a0_1, .int .i64 a0_2, .int .i64 a0_3, .int .i64 a0_4, .int .i64 a0_5, .int .i64 a0_6, .int .i64 a0_7, .slice A0_8 l0_8.length c0_8, .int .i64 a0_9]) (t := 26) ?hr ?_; (case hd => rfl); (case hg => rfl); (case hr => first | (go_simp; done) | (go_simp; rfl)); intro gb132 hg w9 hbox hb; have n0_ := Aside0.mk (below_step (by repeat (first | (with_reducible first | exact HB.out | apply below_alloc | apply pw_below_drewN | apply below_drew1) | exact HB.out)) hb); have n1_ := Aside0.mk (hbox); have n2_ := Aside0.mk ((by rw [hg]; exact (below_size (by repeat (first | (with_reducible first | exact HB.out | apply below_alloc | apply pw_below_drewN | apply below_drew1) | exact HB.out))) : w.heap.size ≤ gb132)); have n3_ := Aside0.mk ((by rw [hg]; exact (below_size (by repeat (first | (with_reducible first | exact HB.out | apply below_alloc | apply pw_below_drewN | apply below_drew1) | exact HB.out))) : w.heap.size ≤ gb132)); clear HB; have HB := n0_; have BK132 := n1_; have GW132 := n2_; have GE132 := n3_; clear n0_ n1_ n2_ n3_; clear hb hbox hg; have hcz10_0 : w9.cell? ⟨gb132, 0, none⟩ = some (.int .i64 a0_0) := (blk_cell BK132.out 0).trans rfl; have hcz10_1 : w9.cell? ⟨gb132, 1, none⟩ = some (.int .i64 a0_1) := (blk_cell BK132.out 1).trans rfl; have hcz10_2 : w9.cell? ⟨gb132, 2, none⟩ = some (.int .i64 a0_2) := (blk_cell BK132.out 2).trans rfl; have hcz10_3 : w9.cell? ⟨gb132, 3, none⟩ = some (.int .i64 a0_3) := (blk_cell BK132.out 3).trans rfl; have hcz10_4 : w9.cell? ⟨gb132, 4, none⟩ = some (.int .i64 a0_4) := (blk_cell BK132.out 4).trans rfl; have hcz10_5 : w9.cell? ⟨gb132, 5, none⟩ = some (.int .i64 a0_5) := (blk_cell BK132.out 5).trans rfl; have hcz10_6 : w9.cell? ⟨gb132, 6, none⟩ = some (.int .i64 a0_6) := (blk_cell BK132.out 6).trans rfl; have hcz10_7 : w9.cell? ⟨gb132, 7, none⟩ = some (.int .i64 a0_7) := (blk_cell BK132.out 7).trans rfl; have hcz10_8 : w9.cell? ⟨gb132, 8, none⟩ = some (.slice A0_8 l0_8.length c0_8) := (blk_cell BK132.out 8).trans rfl; have hcz10_9 : w9.cell? ⟨gb132, 9, none⟩ = some (.int .i64 a0_9) := (blk_cell BK132.out 9).trans rfl; have hfz10_0 := blk_frozen BK132.out 0; have hfz10_1 := blk_frozen BK132.out 1; have hfz10_2 := blk_frozen BK132.out 2; have hfz10_3 := blk_frozen BK132.out 3; have hfz10_4 := blk_frozen BK132.out 4; have hfz10_5 := blk_frozen BK132.out 5; have hfz10_6 := blk_frozen BK132.out 6; have hfz10_7 := blk_frozen BK132.out 7; have hfz10_8 := blk_frozen BK132.out 8; have hfz10_9 := blk_frozen BK132.out 9))
       go_ret
       exact ⟨by first | rfl | (simp [errW_none, errW_some] <;> rfl) | (simp [*, errW_none, errW_some] <;> rfl), by repeat (first | (with_reducible first | exact HB.out | apply below_alloc | apply pw_below_drewN | apply below_drew1 | refine below_set ?_ GE132.out) | exact HB.out)⟩
     · rw [if_neg c8] at H
       have c8b0 : decide (a0_1 < 0) = false := decide_eq_false c8
       clear c8
       by_cases c11 : a0_1 > 2147483647
       · rw [if_pos c11] at H
         have c11b0 : decide (2147483647 < a0_1) = true := decide_eq_true c11
         clear c11
         obtain rfl := Option.some.inj H
         go_enter Try.func107, Try.ntmps107
         go_wp2_with (first | ((with_reducible refine gate_dst (N := 1) rfl ?_); refine box_event ?hg (N := 1) ?hd (cs := #[.int .i64 a0_0, .int .i64 a0_1, .int .i64 a0_2, .int .i64 a0_3, .int .i64 a0_4, .int .i64 a0_5, .int .i64 a0_6, .int .i64 a0_7, .slice A0_8 l0_8.length c0_8, .int .i64 a0_9]) (t := 26) ?hr ?_; (case hd => rfl); (case hg => rfl); (case hr => first | (go_simp; done) | (go_simp; rfl)); intro gb132 hg w12 hbox hb; have n0_ := Aside0.mk (below_step (by repeat (first | (with_reducible first | exact HB.out | apply below_alloc | apply pw_below_drewN | apply below_drew1) | exact HB.out)) hb); have n1_ := Aside0.mk (hbox); have n2_ := Aside0.mk ((by rw [hg]; exact (below_size (by repeat (first | (with_reducible first | exact HB.out | apply below_alloc | apply pw_below_drewN | apply below_drew1) | exact HB.out))) : w.heap.size ≤ gb132)); have n3_ := Aside0.mk ((by rw [hg]; exact (below_size (by repeat (first | (with_reducible first | exact HB.out | apply below_alloc | apply pw_below_drewN | apply below_drew1) | exact HB.out))) : w.heap.size ≤ gb132)); clear HB; have HB := n0_; have BK132 := n1_; have GW132 := n2_; have GE132 := n3_; clear n0_ n1_ n2_ n3_; clear hb hbox hg; have hcz13_0 : w12.cell? ⟨gb132, 0, none⟩ = some (.int .i64 a0_0) := (blk_cell BK132.out 0).trans rfl; have hcz13_1 : w12.cell? ⟨gb132, 1, none⟩ = some (.int .i64 a0_1) := (blk_cell BK132.out 1).trans rfl; have hcz13_2 : w12.cell? ⟨gb132, 2, none⟩ = some (.int .i64 a0_2) := (blk_cell BK132.out 2).trans rfl; have hcz13_3 : w12.cell? ⟨gb132, 3, none⟩ = some (.int .i64 a0_3) := (blk_cell BK132.out 3).trans rfl; have hcz13_4 : w12.cell? ⟨gb132, 4, none⟩ = some (.int .i64 a0_4) := (blk_cell BK132.out 4).trans rfl; have hcz13_5 : w12.cell? ⟨gb132, 5, none⟩ = some (.int .i64 a0_5) := (blk_cell BK132.out 5).trans rfl; have hcz13_6 : w12.cell? ⟨gb132, 6, none⟩ = some (.int .i64 a0_6) := (blk_cell BK132.out 6).trans rfl; have hcz13_7 : w12.cell? ⟨gb132, 7, none⟩ = some (.int .i64 a0_7) := (blk_cell BK132.out 7).trans rfl; have hcz13_8 : w12.cell? ⟨gb132, 8, none⟩ = some (.slice A0_8 l0_8.length c0_8) := (blk_cell BK132.out 8).trans rfl; have hcz13_9 : w12.cell? ⟨gb132, 9, none⟩ = some (.int .i64 a0_9) := (blk_cell BK132.out 9).trans rfl; have hfz13_0 := blk_frozen BK132.out 0; have hfz13_1 := blk_frozen BK132.out 1; have hfz13_2 := blk_frozen BK132.out 2; have hfz13_3 := blk_frozen BK132.out 3; have hfz13_4 := blk_frozen BK132.out 4; have hfz13_5 := blk_frozen BK132.out 5; have hfz13_6 := blk_frozen BK132.out 6; have hfz13_7 := blk_frozen BK132.out 7; have hfz13_8 := blk_frozen BK132.out 8; have hfz13_9 := blk_frozen BK132.out 9))
         go_ret
         exact ⟨by first | rfl | (simp [errW_none, errW_some] <;> rfl) | (simp [*, errW_none, errW_some] <;> rfl), by repeat (first | (with_reducible first | exact HB.out | apply below_alloc | apply pw_below_drewN | apply below_drew1 | refine below_set ?_ GE132.out) | exact HB.out)⟩
       · rw [if_neg c11] at H
         have c11b0 : decide (2147483647 < a0_1) = false := decide_eq_false c11
         clear c11
         replace H := Option.bind_eq_some_iff.mp H
         obtain ⟨t133, A140, H⟩ := H
         replace H : (some t133) = some r := H
         have A14 := Aside0.mk A140
         clear A140
         obtain rfl := Option.some.inj H
         go_enter Try.func107, Try.ntmps107
         go_wp2_with (first | ((with_reducible refine gate_dst (N := 1) rfl ?_); refine box_event ?hg (N := 1) ?hd (cs := #[.int .i64 a0_0, .int .i64 a0_1, .int .i64 a0_2, .int .i64 a0_3, .int .i64 a0_4, .int .i64 a0_5, .int .i64 a0_6, .int .i64 a0_7, .slice A0_8 l0_8.length c0_8, .int .i64 a0_9]) (t := 26) ?hr ?_; (case hd => rfl); (case hg => rfl); (case hr => first | (go_simp; done) | (go_simp; rfl)); intro gb132 hg w15 hbox hb; have n0_ := Aside0.mk (below_step (by repeat (first | (with_reducible first | exact HB.out | apply below_alloc | apply pw_below_drewN | apply below_drew1) | exact HB.out)) hb); have n1_ := Aside0.mk (hbox); have n2_ := Aside0.mk ((by rw [hg]; exact (below_size (by repeat (first | (with_reducible first | exact HB.out | apply below_alloc | apply pw_below_drewN | apply below_drew1) | exact HB.out))) : w.heap.size ≤ gb132)); have n3_ := Aside0.mk ((by rw [hg]; exact (below_size (by repeat (first | (with_reducible first | exact HB.out | apply below_alloc | apply pw_below_drewN | apply below_drew1) | exact HB.out))) : w.heap.size ≤ gb132)); clear HB; have HB := n0_; have BK132 := n1_; have GW132 := n2_; have GE132 := n3_; clear n0_ n1_ n2_ n3_; clear hb hbox hg; have hcz16_0 : w15.cell? ⟨gb132, 0, none⟩ = some (.int .i64 a0_0) := (blk_cell BK132.out 0).trans rfl; have hcz16_1 : w15.cell? ⟨gb132, 1, none⟩ = some (.int .i64 a0_1) := (blk_cell BK132.out 1).trans rfl; have hcz16_2 : w15.cell? ⟨gb132, 2, none⟩ = some (.int .i64 a0_2) := (blk_cell BK132.out 2).trans rfl; have hcz16_3 : w15.cell? ⟨gb132, 3, none⟩ = some (.int .i64 a0_3) := (blk_cell BK132.out 3).trans rfl; have hcz16_4 : w15.cell? ⟨gb132, 4, none⟩ = some (.int .i64 a0_4) := (blk_cell BK132.out 4).trans rfl; have hcz16_5 : w15.cell? ⟨gb132, 5, none⟩ = some (.int .i64 a0_5) := (blk_cell BK132.out 5).trans rfl; have hcz16_6 : w15.cell? ⟨gb132, 6, none⟩ = some (.int .i64 a0_6) := (blk_cell BK132.out 6).trans rfl; have hcz16_7 : w15.cell? ⟨gb132, 7, none⟩ = some (.int .i64 a0_7) := (blk_cell BK132.out 7).trans rfl; have hcz16_8 : w15.cell? ⟨gb132, 8, none⟩ = some (.slice A0_8 l0_8.length c0_8) := (blk_cell BK132.out 8).trans rfl; have hcz16_9 : w15.cell? ⟨gb132, 9, none⟩ = some (.int .i64 a0_9) := (blk_cell BK132.out 9).trans rfl; have hfz16_0 := blk_frozen BK132.out 0; have hfz16_1 := blk_frozen BK132.out 1; have hfz16_2 := blk_frozen BK132.out 2; have hfz16_3 := blk_frozen BK132.out 3; have hfz16_4 := blk_frozen BK132.out 4; have hfz16_5 := blk_frozen BK132.out 5; have hfz16_6 := blk_frozen BK132.out 6; have hfz16_7 := blk_frozen BK132.out 7; have hfz16_8 := blk_frozen BK132.out 8; have hfz16_9 := blk_frozen BK132.out 9) | ((with_reducible refine gate_callee (f := 151) rfl ?_); refine goesL_ (some 23) rfl rfl Try.func151 (by kernel_rfl) rfl #[.agg #[.int .i64 a0_2, .int .i64 a0_3, .int .i64 a0_4, .int .i64 a0_5, .int .i64 a0_6, .int .i64 a0_7, .slice A0_8 l0_8.length c0_8, .int .i64 a0_9]] rfl (by (try simp only [List.map_toArray, List.map_cons, List.map_nil]); first | done | rfl | (simp only [List.length_drop, List.length_take]; rfl)) ?_; (with_reducible refine (emenderref09_Check.calls k a0_2 a0_3 a0_4 a0_5 a0_6 a0_7 _ _ l0_8 a0_9 t133 _ ?side1 ?side2 A14.out).mono ?_); (case side1 => repeat (first | exact (Kd.C_below HR0_8.out HB.out) | (with_reducible refine Kd.C_alloc ?_ _) | (with_reducible refine Kd.C_drewN ?_ _) | (with_reducible refine Kd.C_drew ?_))); (case side2 => exact HC0_8.out); rintro e w17 ⟨rfl, hb⟩; refine ⟨_, rfl, ?_⟩; have n0_ := Aside0.mk (blk_below (g := gb132) (o := .cells #[.int .i64 a0_0, .int .i64 a0_1, .int .i64 a0_2, .int .i64 a0_3, .int .i64 a0_4, .int .i64 a0_5, .int .i64 a0_6, .int .i64 a0_7, .slice A0_8 l0_8.length c0_8, .int .i64 a0_9] 26 (0, 0)) (by (with_reducible repeat (first | refine blk_drewN ?_ _ | refine blk_drew ?_ | refine blk_alloc ?_ _)); exact BK132.out) hb); have n1_ := Aside0.mk (below_step (by repeat (first | (with_reducible first | exact HB.out | apply below_alloc | apply pw_below_drewN | apply below_drew1 | refine below_set ?_ GE132.out) | exact HB.out)) hb); clear BK132; clear HB; have BK132 := n0_; have HB := n1_; clear n0_ n1_; (try clear hb); (try clear hb2); (try clear hk); (try clear hi)))
         go_ret
         exact ⟨by first | rfl | (simp [errW_none, errW_some] <;> rfl) | (simp [*, errW_none, errW_some] <;> rfl), by repeat (first | (with_reducible first | exact HB.out | apply below_alloc | apply pw_below_drewN | apply below_drew1 | refine below_set ?_ GE132.out) | exact HB.out)⟩
mutual
def emenderref01_Get.j0 : Nat → List Int → Int → Bool → Option (Int × Int × Int)
 | 0, _, _, _ => none
 | k + 1, x0, x1, x17 => if x17 = true then (some (0, 0, 1)) else (emenderref01_Get.l0 k x0 x1 0 0)
def emenderref01_Get.l0 : Nat → List Int → Int → Int → Int → Option (Int × Int × Int)
 | 0, _, _, _, _ => none
 | k + 1, x0, x1, x7, x8 => if x8 < 10 then (if (wrap64 (x1 + x8)) ≥ (x0.length : Int) then (some (0, (x0.length : Int), 3)) else (if 0 ≤ (wrap64 (x1 + x8)) then (if (wrap64 (x1 + x8)) < (x0.length : Int) then (if (rd x0 (wrap64 (x1 + x8))) = 0 then (if x8 > 0 then (emenderref01_Get.j2 k x0 x1 x7 x8 (rd x0 (wrap64 (x1 + x8))) true) else (if x8 = 9 then (emenderref01_Get.j2 k x0 x1 x7 x8 (rd x0 (wrap64 (x1 + x8))) (decide ((rd x0 (wrap64 (x1 + x8))) > 1))) else (emenderref01_Get.j2 k x0 x1 x7 x8 (rd x0 (wrap64 (x1 + x8))) false))) else (if x8 = 9 then (emenderref01_Get.j2 k x0 x1 x7 x8 (rd x0 (wrap64 (x1 + x8))) (decide ((rd x0 (wrap64 (x1 + x8))) > 1))) else (emenderref01_Get.j2 k x0 x1 x7 x8 (rd x0 (wrap64 (x1 + x8))) false))) else (none)) else (none))) else (some (0, 0, 4))
def emenderref01_Get.j2 : Nat → List Int → Int → Int → Int → Int → Bool → Option (Int × Int × Int)
 | 0, _, _, _, _, _, _ => none
 | k + 1, x0, x1, x7, x8, x9, x49 => if x49 = true then (some (0, wrap64 (x1 + x8), 4)) else (if 0 ≤ (wrap64 (7 * x8)) then (if x9 < 128 then (some (Go.bits .or .u64 x7 (shl .u64 (IntKind.u64.wrap (Go.bits .and .u8 x9 127)) (wrap64 (7 * x8))), wrap64 ((wrap64 (x1 + x8)) + 1), 0)) else (emenderref01_Get.l0 k x0 x1 (Go.bits .or .u64 x7 (shl .u64 (IntKind.u64.wrap (Go.bits .and .u8 x9 127)) (wrap64 (7 * x8)))) (wrap64 (x8 + 1)))) else (none))
end
def emenderref01_Get.f (k : Nat) (l0 : List Int) (a1 : Int) : Option (Int × Int × Int) := if a1 < 0 then (emenderref01_Get.j0 k l0 a1 true) else (emenderref01_Get.j0 k l0 a1 (decide (a1 > (l0.length : Int))))
set_option maxHeartbeats 8000000 in
set_option maxRecDepth 100000 in
theorem emenderref01_Get.calls (k : Nat) (A0 : Option Addr) (c0 : Nat) (l0 : List Int) (a1 : Int) (r1 : Int) (r2 : Int) (r3 : Int) (w : World) (hr0 : Kd.C (Kd.int .u8) w A0 l0.length l0) (hc0 : l0.length ≤ c0) (h : emenderref01_Get.f k l0 a1 = some (r1, r2, r3)) :
 Calls Try.prog 156 #[.slice A0 l0.length c0, .int .i64 a1] w fun e w' => e = .returned (.tuple #[.int .u64 r1, .int .i64 r2, .int .i64 r3]) ∧ Drawn0 w w' := by
 have HR0 := Aside0.mk hr0
 have HC0 := Aside0.mk hc0
 clear hr0 hc0
 have H : (if a1 < 0 then (emenderref01_Get.j0 k l0 a1 true) else (emenderref01_Get.j0 k l0 a1 (decide (a1 > (l0.length : Int))))) = some (r1, r2, r3) := h
 clear h
 have HC3 := Aside0.mk H
 clear H
 go_enter Try.func156, Try.ntmps156
 go_upto_region 1 with (fail)
 go_cut [17] (fun v17 wc => ∃ (kq : Nat) (x17_2 : Bool), v17 = .bool x17_2 ∧ Aside0 (emenderref01_Get.j0 kq l0 a1 x17_2 = some (r1, r2, r3)) ∧ Aside0 (kq ≤ k) ∧ Drawn0 w wc)
 case first =>
  have H := HC3.out
  clear HC3
  by_cases c4 : a1 < 0
  · rw [if_pos c4] at H
    have c4b0 : decide (a1 < 0) = true := decide_eq_true c4
    clear c4
    (first | rw [c4b0] | (simp only [i64_w, i32_w]; rw [c4b0]) | skip)
    have H' := Aside0.mk H
    clear H
    go_wp2
    go_meet
    case rel => exact ⟨_, (true), (by first | rfl | (simp; done) | (simp [*]; done)), H', ⟨by first | omega | exact Nat.le_refl _⟩, by repeat (first | exact Drawn0.refl _ | apply Drawn0.step)⟩
  · rw [if_neg c4] at H
    have c4b0 : decide (a1 < 0) = false := decide_eq_false c4
    clear c4
    (first | rw [c4b0] | (simp only [i64_w, i32_w]; rw [c4b0]) | skip)
    have H' := Aside0.mk H
    clear H
    go_wp2
    go_meet
    case rel => exact ⟨_, (decide (a1 > (l0.length : Int))), (by first | rfl | (simp; done) | (simp [*]; done)), H', ⟨by first | omega | exact Nat.le_refl _⟩, by repeat (first | exact Drawn0.refl _ | apply Drawn0.step)⟩
 case rest =>
  clear HC3
  try clear c1
  try clear p2
  try clear c4
  try clear c4b0
  obtain ⟨kq, x17_2, rfl, HA, HJ2, ⟨mc2, rfl⟩⟩ := hcut
  cases kq with
  | zero => exact absurd HA.out (by simp [emenderref01_Get.j0])
  | succ kj2 =>
   have H := HA.out
   clear HA
   simp only [emenderref01_Get.j0] at H
   by_cases c5 : x17_2 = true
   · subst c5
     have H1 : (some (0, 0, 1)) = some (r1, r2, r3) := by rw [if_pos rfl] at H; exact H
     clear H
     have H := H1
     clear H1
     simp only [Option.some.injEq, Prod.mk.injEq] at H
     obtain ⟨rfl, rfl, rfl⟩ := H
     go_wp2
     go_ret3
     exact ⟨by first | rfl | (simp; done) | (simp [*]; done), by repeat (first | exact Drawn0.refl _ | apply Drawn0.step)⟩
   · replace c5 := Bool.eq_false_iff.mpr c5
     subst c5
     have H1 : (emenderref01_Get.l0 kj2 l0 a1 0 0) = some (r1, r2, r3) := by rw [if_neg (show ¬ (false = true) by decide)] at H; exact H
     clear H
     have H := H1
     clear H1
     have H' := Aside0.mk H
     clear H
     go_wp2
     go_loopg [7, 8] kj2 (fun kq v7 v8 w' => ∃ (x7_2 : Int) (x8_2 : Int), v7 = .int .u64 x7_2 ∧ v8 = .int .i64 x8_2 ∧ Aside0 (emenderref01_Get.l0 kq l0 a1 x7_2 x8_2 = some (r1, r2, r3)) ∧ Aside0 (kq ≤ kj2) ∧ Drawn0 w w')
     case atStart => exact ⟨(0), (0), (by first | rfl | (simp; done) | (simp [*]; done)), (by first | rfl | (simp; done) | (simp [*]; done)), H', ⟨Nat.le_refl _⟩, by repeat (first | exact Drawn0.refl _ | apply Drawn0.step)⟩
     case round =>
      clear H'
      try clear c1
      try clear c2
      try clear p2
      try clear c4
      try clear c4b0
      try clear c5
      try clear p2
      obtain ⟨x7_2, x8_2, rfl, rfl, HA, HK2, ⟨m2, rfl⟩⟩ := hrel
      cases gk with
      | zero => exact absurd HA.out (by simp [emenderref01_Get.l0])
      | succ k2 =>
       have H := HA.out
       clear HA
       simp only [emenderref01_Get.l0] at H
       by_cases c6 : x8_2 < 10
       · rw [if_pos c6] at H
         have c6b0 : decide (x8_2 < 10) = true := decide_eq_true c6
         clear c6
         by_cases c7 : (wrap64 (a1 + x8_2)) ≥ (l0.length : Int)
         · rw [if_pos c7] at H
           have c7b0 : decide ((l0.length : Int) ≤ (wrap64 (a1 + x8_2))) = true := decide_eq_true c7
           clear c7
           simp only [Option.some.injEq, Prod.mk.injEq] at H
           obtain ⟨rfl, rfl, rfl⟩ := H
           go_wp2
           go_ret3
           exact ⟨by first | rfl | (simp; done) | (simp [*]; done), by repeat (first | exact Drawn0.refl _ | apply Drawn0.step)⟩
         · rw [if_neg c7] at H
           have c7b0 : decide ((l0.length : Int) ≤ (wrap64 (a1 + x8_2))) = false := decide_eq_false c7
           clear c7
           obtain ⟨ji8, hji8⟩ : ∃ j_ : Int, (wrap64 (a1 + x8_2)) = j_ := ⟨_, rfl⟩
           replace H : (if 0 ≤ (ji8) then (if (ji8) < (l0.length : Int) then (if (rd l0 (ji8)) = 0 then (if x8_2 > 0 then (emenderref01_Get.j2 k2 l0 a1 x7_2 x8_2 (rd l0 (ji8)) true) else (if x8_2 = 9 then (emenderref01_Get.j2 k2 l0 a1 x7_2 x8_2 (rd l0 (ji8)) (decide ((rd l0 (ji8)) > 1))) else (emenderref01_Get.j2 k2 l0 a1 x7_2 x8_2 (rd l0 (ji8)) false))) else (if x8_2 = 9 then (emenderref01_Get.j2 k2 l0 a1 x7_2 x8_2 (rd l0 (ji8)) (decide ((rd l0 (ji8)) > 1))) else (emenderref01_Get.j2 k2 l0 a1 x7_2 x8_2 (rd l0 (ji8)) false))) else (none)) else (none)) = some (r1, r2, r3) := by first | (rw [hji8] at H; exact H) | (simp only [hji8] at H ⊢; exact H)
           (try rw [hji8] at c7b0)
           have hji8w : (IntKind.i64.wrap (a1 + x8_2)) = ji8 := (i64_w _).trans hji8
           by_cases c9 : 0 ≤ (ji8)
           · rw [if_pos c9] at H
             have c9b0 : decide (0 ≤ (ji8)) = true := decide_eq_true c9
             clear c9
             by_cases c10 : (ji8) < (l0.length : Int)
             · rw [if_pos c10] at H
               have c10b0 : decide ((ji8) < (l0.length : Int)) = true := decide_eq_true c10
               clear c10
               have HC11 := Aside0.mk H
               clear H
               have p134 : 0 ≤ ((ji8) : Int) := of_decide_eq_true (by first | (with_reducible assumption) | assumption)
               have q134 : (ji8) < (l0.length : Int) := of_decide_eq_true (by first | (with_reducible assumption) | assumption)
               obtain ⟨ad134, e134, hx134_0⟩ := Kd.at_int HR0.out (ji8) p134 q134
               cases e134
               replace p134 := eq_true p134
               replace q134 := eq_true q134
               go_upto_region 10 with (fail)
               go_cut [49] (fun v49 wc => ∃ (kq : Nat) (x49_10 : Bool), v49 = .bool x49_10 ∧ Aside0 (emenderref01_Get.j2 kq l0 a1 x7_2 x8_2 (rd l0 (ji8)) x49_10 = some (r1, r2, r3)) ∧ Aside0 (kq ≤ k2) ∧ Drawn0 w wc)
               case first =>
                have H := HC11.out
                clear HC11
                by_cases c12 : (rd l0 (ji8)) = 0
                · rw [if_pos c12] at H
                  have c12b0 : ((rd l0 (ji8)) == 0) = true := beq_iff_eq.mpr c12
                  have c12b1 : ((rd l0 (ji8)) != 0) = false := bne_eq_false_iff_eq.mpr c12
                  clear c12
                  (first | rw [c12b0] | (simp only [i64_w, i32_w]; rw [c12b0]) | skip)
                  by_cases c13 : x8_2 > 0
                  · rw [if_pos c13] at H
                    have c13b0 : decide (0 < x8_2) = true := decide_eq_true c13
                    clear c13
                    have H' := Aside0.mk H
                    clear H
                    go_wp2
                    go_meet
                    case rel => exact ⟨_, (true), (by first | rfl | (simp; done) | (simp [*]; done)), H', ⟨by have := HJ2.out; have := HK2.out; first | omega | exact Nat.le_refl _⟩, by repeat (first | exact Drawn0.refl _ | apply Drawn0.step)⟩
                  · rw [if_neg c13] at H
                    have c13b0 : decide (0 < x8_2) = false := decide_eq_false c13
                    clear c13
                    by_cases c14 : x8_2 = 9
                    · rw [if_pos c14] at H
                      have c14b0 : (x8_2 == 9) = true := beq_iff_eq.mpr c14
                      have c14b1 : (x8_2 != 9) = false := bne_eq_false_iff_eq.mpr c14
                      clear c14
                      have H' := Aside0.mk H
                      clear H
                      go_wp2
                      go_meet
                      case rel => exact ⟨_, (decide ((rd l0 (ji8)) > 1)), (by first | rfl | (simp; done) | (simp only [← hji8] <;> (first | rfl | simp)) | (simp [*]; done)), H', ⟨by have := HJ2.out; have := HK2.out; first | omega | exact Nat.le_refl _⟩, by repeat (first | exact Drawn0.refl _ | apply Drawn0.step)⟩
                    · rw [if_neg c14] at H
                      have c14b0 : (x8_2 == 9) = false := beq_eq_false_iff_ne.mpr c14
                      have c14b1 : (x8_2 != 9) = true := bne_iff_ne.mpr c14
                      have H' := Aside0.mk H
                      clear H
                      go_wp2
                      go_meet
                      case rel => exact ⟨_, (false), (by first | rfl | (simp; done) | (simp [*]; done)), H', ⟨by have := HJ2.out; have := HK2.out; first | omega | exact Nat.le_refl _⟩, by repeat (first | exact Drawn0.refl _ | apply Drawn0.step)⟩
                · rw [if_neg c12] at H
                  have c12b0 : ((rd l0 (ji8)) == 0) = false := beq_eq_false_iff_ne.mpr c12
                  have c12b1 : ((rd l0 (ji8)) != 0) = true := bne_iff_ne.mpr c12
                  (first | rw [c12b0] | (simp only [i64_w, i32_w]; rw [c12b0]) | skip)
                  by_cases c15 : x8_2 = 9
                  · rw [if_pos c15] at H
                    have c15b0 : (x8_2 == 9) = true := beq_iff_eq.mpr c15
                    have c15b1 : (x8_2 != 9) = false := bne_eq_false_iff_eq.mpr c15
                    clear c15
                    have H' := Aside0.mk H
                    clear H
                    go_wp2
                    go_meet
                    case rel => exact ⟨_, (decide ((rd l0 (ji8)) > 1)), (by first | rfl | (simp; done) | (simp only [← hji8] <;> (first | rfl | simp)) | (simp [*]; done)), H', ⟨by have := HJ2.out; have := HK2.out; first | omega | exact Nat.le_refl _⟩, by repeat (first | exact Drawn0.refl _ | apply Drawn0.step)⟩
                  · rw [if_neg c15] at H
                    have c15b0 : (x8_2 == 9) = false := beq_eq_false_iff_ne.mpr c15
                    have c15b1 : (x8_2 != 9) = true := bne_iff_ne.mpr c15
                    have H' := Aside0.mk H
                    clear H
                    go_wp2
                    go_meet
                    case rel => exact ⟨_, (false), (by first | rfl | (simp; done) | (simp [*]; done)), H', ⟨by have := HJ2.out; have := HK2.out; first | omega | exact Nat.le_refl _⟩, by repeat (first | exact Drawn0.refl _ | apply Drawn0.step)⟩
               case rest =>
                clear HC11
                try clear c1
                try clear p1
                try clear q1
                try clear hx1
                try clear c2
                try clear p2
                try clear c4
                try clear c4b0
                try clear c5
                try clear c6
                try clear c6b0
                try clear p6
                try clear c7
                try clear c7b0
                try clear c9
                try clear c9b0
                try clear c10
                try clear c10b0
                try clear c12
                try clear c12b0
                try clear c12b1
                try clear c13
                try clear c13b0
                try clear p13
                try clear q13
                try clear hx13
                try clear c14
                try clear c14b0
                try clear c14b1
                try clear c15
                try clear c15b0
                try clear c15b1
                try clear hx134_0
                try clear p134
                try clear p2
                try clear q134
                obtain ⟨kq, x49_10, rfl, HA, HJ10, ⟨mc10, rfl⟩⟩ := hcut
                cases kq with
                | zero => exact absurd HA.out (by simp [emenderref01_Get.j2])
                | succ kj10 =>
                 have H := HA.out
                 clear HA
                 simp only [emenderref01_Get.j2] at H
                 by_cases c16 : x49_10 = true
                 · subst c16
                   have H1 : (some (0, wrap64 (a1 + x8_2), 4)) = some (r1, r2, r3) := by rw [if_pos rfl] at H; exact H
                   clear H
                   have H := H1
                   clear H1
                   simp only [Option.some.injEq, Prod.mk.injEq] at H
                   obtain ⟨rfl, rfl, rfl⟩ := H
                   go_wp2
                   go_ret3
                   exact ⟨by first | rfl | (simp; done) | (simp only [← hji8] <;> (first | rfl | simp)) | (simp [*]; done), by repeat (first | exact Drawn0.refl _ | apply Drawn0.step)⟩
                 · replace c16 := Bool.eq_false_iff.mpr c16
                   subst c16
                   have H1 : (if 0 ≤ (wrap64 (7 * x8_2)) then (if (rd l0 (ji8)) < 128 then (some (Go.bits .or .u64 x7_2 (shl .u64 (IntKind.u64.wrap (Go.bits .and .u8 (rd l0 (ji8)) 127)) (wrap64 (7 * x8_2))), wrap64 ((wrap64 (a1 + x8_2)) + 1), 0)) else (emenderref01_Get.l0 kj10 l0 a1 (Go.bits .or .u64 x7_2 (shl .u64 (IntKind.u64.wrap (Go.bits .and .u8 (rd l0 (ji8)) 127)) (wrap64 (7 * x8_2)))) (wrap64 (x8_2 + 1)))) else (none)) = some (r1, r2, r3) := by rw [if_neg (show ¬ (false = true) by decide)] at H; exact H
                   clear H
                   have H := H1
                   clear H1
                   obtain ⟨ji17, hji17⟩ : ∃ j_ : Int, (wrap64 (7 * x8_2)) = j_ := ⟨_, rfl⟩
                   replace H : (if 0 ≤ (ji17) then (if (rd l0 (ji8)) < 128 then (some (Go.bits .or .u64 x7_2 (shl .u64 (IntKind.u64.wrap (Go.bits .and .u8 (rd l0 (ji8)) 127)) (ji17)), wrap64 ((wrap64 (a1 + x8_2)) + 1), 0)) else (emenderref01_Get.l0 kj10 l0 a1 (Go.bits .or .u64 x7_2 (shl .u64 (IntKind.u64.wrap (Go.bits .and .u8 (rd l0 (ji8)) 127)) (ji17))) (wrap64 (x8_2 + 1)))) else (none)) = some (r1, r2, r3) := by first | (rw [hji17] at H; exact H) | (simp only [hji17] at H ⊢; exact H)
                   have hji17w : (IntKind.i64.wrap (7 * x8_2)) = ji17 := (i64_w _).trans hji17
                   by_cases c18 : 0 ≤ (ji17)
                   · rw [if_pos c18] at H
                     have c18b0 := eq_true c18
                     have c18b1 : decide (0 ≤ (ji17)) = true := decide_eq_true c18
                     clear c18
                     obtain ⟨ji19, hji19⟩ : ∃ j_ : Int, (shl .u64 (IntKind.u64.wrap (Go.bits .and .u8 (rd l0 (ji8)) 127)) (ji17)) = j_ := ⟨_, rfl⟩
                     replace H : (if (rd l0 (ji8)) < 128 then (some (Go.bits .or .u64 x7_2 (ji19), wrap64 ((wrap64 (a1 + x8_2)) + 1), 0)) else (emenderref01_Get.l0 kj10 l0 a1 (Go.bits .or .u64 x7_2 (ji19)) (wrap64 (x8_2 + 1)))) = some (r1, r2, r3) := by first | (rw [hji19] at H; exact H) | (simp only [hji19] at H ⊢; exact H)
                     have hji19_ : (IntKind.u64.wrap ((IntKind.u64.wrap (Go.bits .and .u8 (rd l0 (ji8)) 127)) * 2 ^ min (ji17).toNat 64)) = ji19 := hji19
                     have hji19z : (ji17) ≤ 64 → (IntKind.u64.wrap ((IntKind.u64.wrap (Go.bits .and .u8 (rd l0 (ji8)) 127)) * 2 ^ (ji17).toNat)) = ji19 := shl_small hji19
                     by_cases c20 : (rd l0 (ji8)) < 128
                     · rw [if_pos c20] at H
                       have c20b0 : decide ((rd l0 (ji8)) < 128) = true := decide_eq_true c20
                       clear c20
                       simp only [Option.some.injEq, Prod.mk.injEq] at H
                       obtain ⟨rfl, rfl, rfl⟩ := H
                       go_wp2
                       go_ret3
                       exact ⟨by first | rfl | (simp; done) | (simp only [← hji8, ← hji17, ← hji19] <;> (first | rfl | simp)) | (simp [*]; done), by repeat (first | exact Drawn0.refl _ | apply Drawn0.step)⟩
                     · rw [if_neg c20] at H
                       have c20b0 : decide ((rd l0 (ji8)) < 128) = false := decide_eq_false c20
                       clear c20
                       have H' := Aside0.mk H
                       clear H
                       go_wp2
                       go_roundg kj10
                       case measure => have := HJ2.out; have := HK2.out; have := HJ10.out; omega
                       case rel => exact ⟨(Go.bits .or .u64 x7_2 (ji19)), (wrap64 (x8_2 + 1)), (by first | rfl | (simp; done) | (simp only [← hji19] <;> (first | rfl | simp)) | (simp [*]; done)), (by first | rfl | (simp; done) | (simp [*]; done)), H', ⟨by have := HJ2.out; have := HK2.out; have := HJ10.out; omega⟩, by repeat (first | exact Drawn0.refl _ | apply Drawn0.step)⟩
                   · rw [if_neg c18] at H
                     exact absurd H (by simp)
             · rw [if_neg c10] at H
               exact absurd H (by simp)
           · rw [if_neg c9] at H
             exact absurd H (by simp)
       · rw [if_neg c6] at H
         have c6b0 : decide (x8_2 < 10) = false := decide_eq_false c6
         clear c6
         simp only [Option.some.injEq, Prod.mk.injEq] at H
         obtain ⟨rfl, rfl, rfl⟩ := H
         go_wp2
         go_ret3
         exact ⟨by first | rfl | (simp; done) | (simp [*]; done), by repeat (first | exact Drawn0.refl _ | apply Drawn0.step)⟩
def IsS180 (w0 W : World) (g : Nat) (f0 : List Int) (f1 : Int) (f2 : Int) : Prop := ∃ A0 c0, W.heap[g]? = some (.cells #[.slice A0 f0.length c0, .int .i64 f1, .int .i64 f2] 180 (0, 0)) ∧ w0.heap.size ≤ g ∧ Kd.C (Kd.int .u8) w0 A0 f0.length f0
theorem IsS180.drewN {w0 W : World} {g : Nat} {f0 : List Int} {f1 : Int} {f2 : Int} (h : IsS180 w0 W g f0 f1 f2) (m : Nat) : IsS180 w0 (W.drewN m) g f0 f1 f2 := h
theorem IsS180.ge {w0 W : World} {g : Nat} {f0 : List Int} {f1 : Int} {f2 : Int} (h : IsS180 w0 W g f0 f1 f2) : w0.heap.size ≤ g := by
 obtain ⟨A0, c0, hb, hg, hr0⟩ := h
 exact hg
theorem cellS180_0 {W : World} {g : Nat} {A0 : Option Addr} {c0 : Nat} {f0 : List Int} {f1 : Int} {f2 : Int} (h : W.heap[g]? = some (.cells #[.slice A0 f0.length c0, .int .i64 f1, .int .i64 f2] 180 (0, 0))) : W.cell? ⟨g, 0, none⟩ = some (.slice A0 f0.length c0) := (blk_cell h 0).trans rfl
theorem cellS180_1 {W : World} {g : Nat} {A0 : Option Addr} {c0 : Nat} {f0 : List Int} {f1 : Int} {f2 : Int} (h : W.heap[g]? = some (.cells #[.slice A0 f0.length c0, .int .i64 f1, .int .i64 f2] 180 (0, 0))) : W.cell? ⟨g, 1, none⟩ = some (.int .i64 f1) := (blk_cell h 1).trans rfl
theorem cellS180_2 {W : World} {g : Nat} {A0 : Option Addr} {c0 : Nat} {f0 : List Int} {f1 : Int} {f2 : Int} (h : W.heap[g]? = some (.cells #[.slice A0 f0.length c0, .int .i64 f1, .int .i64 f2] 180 (0, 0))) : W.cell? ⟨g, 2, none⟩ = some (.int .i64 f2) := (blk_cell h 2).trans rfl
theorem IsS180.set_2 {w0 W : World} {g : Nat} {f0 : List Int} {f1 : Int} {f2 : Int} (h : IsS180 w0 W g f0 f1 f2) (x : Int) : IsS180 w0 (W.setCell ⟨g, 2, none⟩ (.int .i64 x)) g f0 f1 x := by
 obtain ⟨A0, c0, hb, hg, hr0⟩ := h
 exact ⟨A0, c0, by simpa using blk_set hb 2 (.int .i64 x), hg, hr0⟩
def emenderref16_reader_end.f (s0_0 : List Int) (s0_1 : Int) (s0_2 : Int) (a1 : Bool) : Option (Int × Int × Int) := if s0_2 = 0 then (if s0_1 < (s0_0.length : Int) then (some (4, s0_1, 4)) else (if a1 = true then (some (s0_2, s0_1, s0_2)) else (some (4, s0_1, 4)))) else (some (s0_2, s0_1, s0_2))
set_option maxHeartbeats 8000000 in
set_option maxRecDepth 100000 in
theorem emenderref16_reader_end.calls (g : Nat) (s0_0 : List Int) (s0_1 : Int) (s0_2 : Int) (a1 : Bool) (r1 : Int) (r2 : Int) (r3 : Int) (w0 w : World) (hI : IsS180 w0 w g s0_0 s0_1 s0_2) (hB : Below w0.heap.size w0 w) (h : emenderref16_reader_end.f s0_0 s0_1 s0_2 a1 = some (r1, r2, r3)) :
 Calls Try.prog 128 #[.pointer (some ⟨g, 0, none⟩), .bool a1] w fun e w' => e = .returned (.int .i64 r1) ∧ IsS180 w0 w' g s0_0 r2 r3 ∧ Below w0.heap.size w0 w' ∧ KeepBut w w' g none := by
 have HI0 := Aside0.mk hI
 have HK := Aside0.mk (KeepBut.refl w g none)
 have HL := Aside0.mk hB.size
 clear hI
 have HW0 := Aside0.mk hB.size
 have HB := Aside0.mk hB
 clear hB
 have H : (if s0_2 = 0 then (if s0_1 < (s0_0.length : Int) then (some (4, s0_1, 4)) else (if a1 = true then (some (s0_2, s0_1, s0_2)) else (some (4, s0_1, 4)))) else (some (s0_2, s0_1, s0_2))) = some (r1, r2, r3) := h
 clear h
 by_cases c3 : s0_2 = 0
 · rw [if_pos c3] at H
   have c3b0 : (s0_2 == 0) = true := beq_iff_eq.mpr c3
   have c3b1 : (s0_2 != 0) = false := bne_eq_false_iff_eq.mpr c3
   clear c3
   by_cases c4 : s0_1 < (s0_0.length : Int)
   · rw [if_pos c4] at H
     have c4b0 : decide (s0_1 < (s0_0.length : Int)) = true := decide_eq_true c4
     clear c4
     simp only [Option.some.injEq, Prod.mk.injEq] at H
     obtain ⟨rfl, rfl, rfl⟩ := H
     obtain ⟨ASz5_0, cSz5_0, HGz5, hgz5, HSz5_0⟩ := HI0.out
     have hcz5_0 := cellS180_0 HGz5
     have hcz5_1 := cellS180_1 HGz5
     have hcz5_2 := cellS180_2 HGz5
     have hfz5_1 := blk_frozen HGz5 1
     have hfz5_2 := blk_frozen HGz5 2
     clear HGz5 hgz5
     go_enter Try.func128, Try.ntmps128
     go_wp2
     repeat (go_quiet (fail); try go_wp2)
     go_ret
     exact ⟨by first | rfl | (simp [errW_none, errW_some] <;> rfl) | (simp [*, errW_none, errW_some] <;> rfl), by repeat (first | (with_reducible first | exact HI0.out | apply IsS180.alloc | apply IsS180.drewN | apply IsS180.drew | apply IsS180.set_1 | apply IsS180.set_2) | exact HI0.out), by repeat (first | (with_reducible first | exact HB.out | apply below_alloc | apply pw_below_drewN | apply below_drew1 | refine below_set ?_ (IsS180.ge HI0.out)) | exact HB.out), by repeat (first | (with_reducible first | exact HK.out | apply KeepBut.set_ | apply keep_drewN | apply keep_drew | apply keep_alloc) | exact HK.out)⟩
   · rw [if_neg c4] at H
     have c4b0 : decide (s0_1 < (s0_0.length : Int)) = false := decide_eq_false c4
     clear c4
     by_cases c6 : a1 = true
     · subst c6
       have H1 : (some (s0_2, s0_1, s0_2)) = some (r1, r2, r3) := by rw [if_pos rfl] at H; exact H
       clear H
       have H := H1
       clear H1
       simp only [Option.some.injEq, Prod.mk.injEq] at H
       obtain ⟨rfl, rfl, rfl⟩ := H
       obtain ⟨ASz7_0, cSz7_0, HGz7, hgz7, HSz7_0⟩ := HI0.out
       have hcz7_0 := cellS180_0 HGz7
       have hcz7_1 := cellS180_1 HGz7
       have hcz7_2 := cellS180_2 HGz7
       have hfz7_1 := blk_frozen HGz7 1
       have hfz7_2 := blk_frozen HGz7 2
       clear HGz7 hgz7
       go_enter Try.func128, Try.ntmps128
       go_wp2
       repeat (go_quiet (fail); try go_wp2)
       go_ret
       exact ⟨by first | rfl | (simp [errW_none, errW_some] <;> rfl) | (simp [*, errW_none, errW_some] <;> rfl), by repeat (first | (with_reducible first | exact HI0.out | apply IsS180.alloc | apply IsS180.drewN | apply IsS180.drew | apply IsS180.set_1 | apply IsS180.set_2) | exact HI0.out), by repeat (first | (with_reducible first | exact HB.out | apply below_alloc | apply pw_below_drewN | apply below_drew1 | refine below_set ?_ (IsS180.ge HI0.out)) | exact HB.out), by repeat (first | (with_reducible first | exact HK.out | apply KeepBut.set_ | apply keep_drewN | apply keep_drew | apply keep_alloc) | exact HK.out)⟩
     · replace c6 := Bool.eq_false_iff.mpr c6
       subst c6
       have H1 : (some (4, s0_1, 4)) = some (r1, r2, r3) := by rw [if_neg (show ¬ (false = true) by decide)] at H; exact H
       clear H
       have H := H1
       clear H1
       simp only [Option.some.injEq, Prod.mk.injEq] at H
       obtain ⟨rfl, rfl, rfl⟩ := H
       obtain ⟨ASz8_0, cSz8_0, HGz8, hgz8, HSz8_0⟩ := HI0.out
       have hcz8_0 := cellS180_0 HGz8
       have hcz8_1 := cellS180_1 HGz8
       have hcz8_2 := cellS180_2 HGz8
       have hfz8_1 := blk_frozen HGz8 1
       have hfz8_2 := blk_frozen HGz8 2
       clear HGz8 hgz8
       go_enter Try.func128, Try.ntmps128
       go_wp2
       repeat (go_quiet (fail); try go_wp2)
       go_ret
       exact ⟨by first | rfl | (simp [errW_none, errW_some] <;> rfl) | (simp [*, errW_none, errW_some] <;> rfl), by repeat (first | (with_reducible first | exact HI0.out | apply IsS180.alloc | apply IsS180.drewN | apply IsS180.drew | apply IsS180.set_1 | apply IsS180.set_2) | exact HI0.out), by repeat (first | (with_reducible first | exact HB.out | apply below_alloc | apply pw_below_drewN | apply below_drew1 | refine below_set ?_ (IsS180.ge HI0.out)) | exact HB.out), by repeat (first | (with_reducible first | exact HK.out | apply KeepBut.set_ | apply keep_drewN | apply keep_drew | apply keep_alloc) | exact HK.out)⟩
 · rw [if_neg c3] at H
   have c3b0 : (s0_2 == 0) = false := beq_eq_false_iff_ne.mpr c3
   have c3b1 : (s0_2 != 0) = true := bne_iff_ne.mpr c3
   simp only [Option.some.injEq, Prod.mk.injEq] at H
   obtain ⟨rfl, rfl, rfl⟩ := H
   obtain ⟨ASz9_0, cSz9_0, HGz9, hgz9, HSz9_0⟩ := HI0.out
   have hcz9_0 := cellS180_0 HGz9
   have hcz9_1 := cellS180_1 HGz9
   have hcz9_2 := cellS180_2 HGz9
   have hfz9_1 := blk_frozen HGz9 1
   have hfz9_2 := blk_frozen HGz9 2
   clear HGz9 hgz9
   go_enter Try.func128, Try.ntmps128
   go_wp2
   repeat (go_quiet (fail); try go_wp2)
   go_ret
   exact ⟨by first | rfl | (simp [errW_none, errW_some] <;> rfl) | (simp [*, errW_none, errW_some] <;> rfl), by repeat (first | (with_reducible first | exact HI0.out | apply IsS180.alloc | apply IsS180.drewN | apply IsS180.drew | apply IsS180.set_1 | apply IsS180.set_2) | exact HI0.out), by repeat (first | (with_reducible first | exact HB.out | apply below_alloc | apply pw_below_drewN | apply below_drew1 | refine below_set ?_ (IsS180.ge HI0.out)) | exact HB.out), by repeat (first | (with_reducible first | exact HK.out | apply KeepBut.set_ | apply keep_drewN | apply keep_drew | apply keep_alloc) | exact HK.out)⟩
end Go.Proofs.Ytmbnjgnmblgjoaa.K
end
section
namespace Go.Proofs.Ytmbnjgnmblgjoaa.Man
open Go.RowKit Go.Proofs.Ytmbnjgnmblgjoaa.K Go.Proofs.YtmbnjgnmblgjoaaW.PrintWords Go.Proofs.YtmbnjgnmblgjoaaW.PrintLast Go.Proofs.YtmbnjgnmblgjoaaW.PrintMore
set_option linter.unusedVariables false
set_option linter.unusedSimpArgs false
set_option maxRecDepth 100000
theorem shl_at (x : Int) (i : Nat) (hi : i ≤ 9) : shl .u64 x (wrap64 (7 * (i : Int))) = IntKind.u64.wrap (x * 2 ^ (7 * i)) := by
 have hw : wrap64 (7 * (i : Int)) = ((7 * i : Nat) : Int) := by unfold wrap64; omega
 rw [hw]
 unfold shl
 rw [Int.toNat_natCast, Nat.min_eq_left (show 7 * i ≤ IntKind.u64.bits by show 7 * i ≤ 64; omega)]
theorem put_together (n i : Nat) (c : Int) (hi : i ≤ 9) (hn : n < 128 ^ i) (h0 : 0 ≤ c) (h1 : c ≤ 255) (m : Nat) (hm : c % 128 = (m : Int)) (hroom : m * 128 ^ i < 18446744073709551616) :
 Go.bits .or .u64 (n : Int) (shl .u64 (IntKind.u64.wrap (Go.bits .and .u8 c 127)) (wrap64 (7 * (i : Int)))) = ((n + m * 128 ^ i : Nat) : Int) := by
 have hmm : m < 128 := by omega
 have e : IntKind.u64.wrap (c % 128) = (m : Int) := by rw [hm, IntKind.wrap_u64]; omega
 rw [shl_at _ i hi, and127 c h0 h1, e, shl_wrap (m : Int) m i rfl hroom, or_shl n m i hi hn hroom]
theorem wadd (p i : Nat) (h : p + i < 4611686018427387904) : wrap64 ((p : Int) + (i : Int)) = ((p + i : Nat) : Int) := by unfold wrap64; omega
theorem w7 (i : Nat) (h : i ≤ 9) : 0 ≤ wrap64 (7 * (i : Int)) := by
 have hw : wrap64 (7 * (i : Int)) = ((7 * i : Nat) : Int) := by unfold wrap64; omega
 rw [hw]; exact Int.natCast_nonneg _
theorem rd_at (b : List Int) (q : Nat) (h : q < b.length) : rd b (q : Int) = b[q] := by unfold rd; rw [Int.toNat_natCast]; simp [List.getD, h]
def sh (p : Nat) (r : Nat × Nat × Int) : Int × Int × Int := ((r.1 : Int), (p : Int) + (r.2.1 : Int), r.2.2)
theorem rget_run (b : List Int) (hB : areBytesN b = true) (p : Nat) (hlen : b.length ≤ 140737488351232) (d : Nat) : ∀ (k i n : Nat), 9 - i = d → i ≤ 9 → p + i ≤ b.length → n < 128 ^ i → 2 * d + 2 < k →
 emenderref01_Get.l0 k b (p : Int) (n : Int) (i : Int) = some (sh p (getL ((b.drop p).drop i) i n)) := by
 induction d with
 | zero =>
  intro k i n h1 h2 h3 hn hk
  obtain rfl : i = 9 := by omega
  obtain ⟨k, rfl⟩ : ∃ m, k = m + 1 := ⟨k - 1, by omega⟩
  obtain ⟨k, rfl⟩ : ∃ m, k = m + 1 := ⟨k - 1, by omega⟩
  rw [emenderref01_Get.l0, wadd p 9 (by omega), if_pos (by decide)]
  by_cases hge : p + 9 = b.length
  · rw [if_pos (by omega)]
    have : (b.drop p).drop 9 = [] := by rw [List.drop_drop]; exact List.drop_eq_nil_of_le (by omega)
    rw [this, getL, sh]
    have e : (b.length : Int) = (p : Int) + ((9 : Nat) : Int) := by omega
    rw [e]; rfl
  · have hlt : p + 9 < b.length := by omega
    have hrd := rd_at b (p + 9) hlt
    obtain ⟨c0, c1⟩ := getN_get hB hlt
    have hgd : b.getD (p + 9) 0 = b[p + 9] := by simp [List.getD, hlt]
    rw [hgd] at c0 c1
    have hdd : (b.drop p).drop 9 = b[p + 9] :: (b.drop p).drop 10 := by
     rw [List.drop_drop, List.drop_drop, List.drop_eq_getElem_cons (show p + 9 < b.length from hlt)]
    rw [if_neg (by omega), if_pos (by omega), if_pos (by omega), hrd, hdd, getL]
    generalize b[p + 9] = c at *
    clear hrd hgd hdd
    have e9 : (((9 : Nat) : Int) = 9) = True := by simp
    by_cases hz : c = 0
    · rw [if_pos hz, if_pos (by decide), emenderref01_Get.j2, if_pos rfl, if_pos (.inl ⟨by decide, hz⟩), wadd p 9 (by omega), sh]
      rfl
    · rw [if_neg hz, if_pos (by decide)]
      by_cases hg : c > 1
      · rw [decide_eq_true hg, emenderref01_Get.j2, if_pos rfl, if_pos (.inr ⟨rfl, hg⟩), wadd p 9 (by omega), sh]
        rfl
      · obtain rfl : c = 1 := by omega
        have hr := put_together n 9 1 (by decide) hn (by decide) (by decide) 1 (by decide) (by decide)
        rw [decide_eq_false hg, emenderref01_Get.j2, if_neg (by decide), if_pos (w7 9 (by decide)), if_pos (by decide), hr, if_neg (by simp), if_pos (by decide), wadd p 9 (by omega), sh, wrap_succ (p + 9) (by omega)]
        have e : ((p + 9 + 1 : Nat) : Int) = (p : Int) + ((9 + 1 : Nat) : Int) := by omega
        rw [e]; rfl
 | succ d ih =>
  intro k i n h1 h2 h3 hn hk
  obtain ⟨k, rfl⟩ : ∃ m, k = m + 1 := ⟨k - 1, by omega⟩
  obtain ⟨k, rfl⟩ : ∃ m, k = m + 1 := ⟨k - 1, by omega⟩
  have hi9 : i < 9 := by omega
  rw [emenderref01_Get.l0, wadd p i (by omega), if_pos (by omega)]
  by_cases hge : p + i = b.length
  · rw [if_pos (by omega)]
    have : (b.drop p).drop i = [] := by rw [List.drop_drop]; exact List.drop_eq_nil_of_le (by omega)
    rw [this, getL, sh]
    have e : (b.length : Int) = (p : Int) + (i : Int) := by omega
    rw [e]; rfl
  · have hlt : p + i < b.length := by omega
    have hrd := rd_at b (p + i) hlt
    obtain ⟨c0, c1⟩ := getN_get hB hlt
    have hgd : b.getD (p + i) 0 = b[p + i] := by simp [List.getD, hlt]
    rw [hgd] at c0 c1
    have hdd : (b.drop p).drop i = b[p + i] :: (b.drop p).drop (i + 1) := by
     rw [List.drop_drop, List.drop_drop, List.drop_eq_getElem_cons (show p + i < b.length from hlt)]
     rfl
    have ih' := fun n' hn' => ih k (i + 1) n' (by omega) (by omega) (by omega) hn' (by omega)
    rw [if_neg (by omega), if_pos (by omega), if_pos (by omega), hrd, hdd, getL]
    generalize b[p + i] = c at *
    clear hrd hgd hdd ih
    have hni : ¬ ((i : Int) = 9) := by omega
    have fin : ∀ (hbad : ¬ ((0 < i ∧ c = 0) ∨ (i = 9 ∧ 1 < c))), emenderref01_Get.j2 (k + 1) b (p : Int) (n : Int) (i : Int) c false = some (sh p (if (0 < i ∧ c = 0) ∨ (i = 9 ∧ 1 < c) then (0, i, 4) else if c < 128 then (n + c.toNat * 128 ^ i, i + 1, 0) else getL ((b.drop p).drop (i + 1)) (i + 1) (n + (c.toNat - 128) * 128 ^ i))) := by
     intro hbad
     rw [emenderref01_Get.j2, if_neg (by decide), if_pos (w7 i h2), if_neg hbad]
     by_cases hs : c < 128
     · have hr := put_together n i c h2 hn c0 c1 c.toNat (by omega) (room_at _ _ hi9 (by omega))
       rw [if_pos hs, hr, wadd p i (by omega), wrap_succ (p + i) (by omega), if_pos hs, sh]
       have : ((p + i + 1 : Nat) : Int) = (p : Int) + ((i + 1 : Nat) : Int) := by omega
       rw [this]
     · have hr := put_together n i c h2 hn c0 c1 (c.toNat - 128) (by omega) (room_at _ _ hi9 (by omega))
       rw [if_neg hs, hr, wrap_succ i (by omega), if_neg hs]
       refine ih' _ ?_
       have h2 : (c.toNat - 128 + 1) * 128 ^ i ≤ 128 * 128 ^ i := Nat.mul_le_mul_right _ (by omega)
       rw [pow128]
       rw [Nat.add_mul] at h2
       omega
    by_cases hz : c = 0
    · rw [if_pos hz]
      by_cases h0 : 0 < i
      · rw [if_pos (by omega), emenderref01_Get.j2, if_pos rfl, if_pos (.inl ⟨h0, hz⟩), wadd p i (by omega), sh]
        have e : ((p + i : Nat) : Int) = (p : Int) + (i : Int) := by omega
        rw [e]; rfl
      · rw [if_neg (by omega), if_neg hni]
        exact fin (by omega)
    · rw [if_neg hz, if_neg hni]
      exact fin (by omega)
theorem rget_f (b : List Int) (hB : areBytesN b = true) (p : Int) (k : Nat) (hlen : b.length ≤ 140737488351232) (hk : 30 ≤ k) : emenderref01_Get.f k b p = some (getF b p) := by
 obtain ⟨k, rfl⟩ : ∃ m, k = m + 1 := ⟨k - 1, by omega⟩
 unfold emenderref01_Get.f getF
 by_cases h0 : p < 0
 · rw [if_pos h0, emenderref01_Get.j0, if_pos rfl, if_pos (.inl h0)]
 · rw [if_neg h0]
   by_cases h1 : p > (b.length : Int)
   · rw [decide_eq_true h1, emenderref01_Get.j0, if_pos rfl, if_pos (.inr h1)]
   · rw [decide_eq_false h1, emenderref01_Get.j0, if_neg (by decide), if_neg (by omega)]
     obtain ⟨q, rfl⟩ : ∃ q : Nat, p = (q : Int) := ⟨p.toNat, by omega⟩
     have := rget_run b hB q hlen 9 k 0 0 (by decide) (by decide) (by omega) (by decide) (by omega)
     rw [List.drop_zero] at this
     exact this
set_option maxHeartbeats 4000000 in
theorem rget_is (A : Option Addr) (c : Nat) (b : List Int) (p : Nat) (w : World) (hC : Kd.C (Kd.int .u8) w A b.length b) (hc : b.length ≤ c) (hB : areBytesN b = true) (hl : b.length ≤ 140737488351232) :
 Calls Try.prog 156 #[.slice A b.length c, .int .i64 p] w fun e w' => e = .returned (.tuple #[.int .u64 (getF b p).1, .int .i64 (getF b p).2.1, .int .i64 (getF b p).2.2]) ∧ ∃ m, w' = w.drewN m :=
 (emenderref01_Get.calls 30 A c b p _ _ _ w hC hc (rget_f b hB p 30 hl (by omega))).mono fun _ _ ⟨e, h⟩ => ⟨e, h.out⟩
end Go.Proofs.Ytmbnjgnmblgjoaa.Man
end
section
namespace Go.Proofs.Ytmbnjgnmblgjoaa.Man
open Go.RowKit Go.Proofs.YtmbnjgnmblgjoaaW.PrintWords Go.Proofs.YtmbnjgnmblgjoaaW.PrintLast Go.Proofs.YtmbnjgnmblgjoaaW.PrintMore
set_option linter.unusedVariables false
set_option linter.unusedSimpArgs false
set_option maxRecDepth 100000
set_option maxHeartbeats 4000000 in
theorem rnumsB_is {w : World} {v : Value} {b : List Int} (hv : BR w w.heap.size v b) (A1 : Option Addr) (c1 : Nat) (l : List Int) (hl : Kd.C (Kd.int .i64) w A1 l.length l) (hn : NumsOk l) (hl5 : l.length ≤ 5) (hb : b.length ≤ 130000000000000) :
 Calls Try.prog 112 #[v, .slice A1 l.length c1] w fun e w' => ∃ v', e = .returned v' ∧ BR w' w.heap.size v' (b ++ vbs l) ∧ Below w.heap.size w w' := by
 have hvl := vbs_le l hn
 have HV := Lib.hid hv
 have HL := Lib.hid hl
 have HN := Lib.hid hn
 clear hv hl hn
 go_enter Try.func112, Try.ntmps112
 go_wp2
 go_loopg [0, 5] l.length (fun g s0 s5 wr => ∃ i : Nat, s5 = .int .i64 i ∧ i ≤ l.length ∧ g = l.length - i ∧ Hid (BR wr w.heap.size s0 (b ++ vbs (l.take i))) ∧ Hid (Below w.heap.size w wr))
 case atStart => exact ⟨0, rfl, Nat.zero_le _, rfl, Lib.hid (by simpa [vbs] using HV.out), Lib.hid (Below.refl _ _)⟩
 case round =>
  clear HV
  obtain ⟨i, rfl, hi, hg, HR, HB⟩ := hrel
  obtain ⟨ys, hys⟩ : ∃ ys, b ++ vbs (l.take i) = ys := ⟨_, rfl⟩
  rw [hys] at HR
  obtain ⟨A3, c3, rfl, hk3, hC3⟩ := BR.len HR.out
  have HC3 := Lib.hid hC3
  have HR3 := HR
  clear HR hC3 hk3
  by_cases hlt : i < l.length
  · have e1 := vbs_take_succ l i hlt
    have e2 := vbs_take_le l (i + 1)
    obtain ⟨ad, ea, hc⟩ := Kd.at_int (Kd.C_below HL.out HB.out) (i : Int) (by omega) (by omega)
    subst ea
    obtain ⟨hx0, hx1⟩ := HN.out i hlt
    have hrd : rd l (i : Int) = l.getD i 0 := rfl
    rw [hrd, Int.toNat_natCast] at hc
    clear hrd
    generalize l.getD i 0 = x at e1 hc hx0 hx1
    obtain ⟨n, rfl⟩ : ∃ n : Nat, x = (n : Int) := ⟨x.toNat, by omega⟩
    rw [Int.toNat_natCast] at e1
    have hz : ys ++ vb n = b ++ vbs (l.take (i + 1)) := by rw [e1, ← hys, List.append_assoc]
    have hroom : (ys ++ vbs [(n : Int)]).length ≤ 140737488355328 := by rw [vbs_one, hz]; rw [List.length_append]; omega
    have hU : IntKind.u64.wrap (n : Int) = (n : Int) := by rw [IntKind.wrap_u64]; omega
    have hbe : Below wr.heap.size wr (wr.alloc (.cells #[.int .u64 (n : Int)] 90)) := (Below.refl _ _).alloc (Nat.le_refl _) _
    have HO := Lib.hid (rput_is A3 (some ⟨wr.heap.size, 0, none⟩) c3 1 ys [(n : Int)] _ (Kd.C_below HC3.out hbe) (C_box wr .u64 (n : Int) 90) (u64_one n (by omega)) hroom)
    have HBE := Lib.hid (HB.out.trans (hbe.mono HB.out.size))
    have HZ := Lib.hid hz
    clear hz hroom e1 e2 hx0 hx1 hys hbe
    clear HR3
    go_wp2_with (go_at_call 120; refine HO.out.mono ?_; rintro e w4 ⟨v4, rfl, hr, hb⟩; rw [vbs_one, HZ.out] at hr; have HR4 := Lib.hid (Kd.R_lower hr HBE.out.size); have HB4 := Lib.hid (HBE.out.trans (hb.mono HBE.out.size)); clear hr hb)
    go_roundg (l.length - (i + 1))
    case measure => omega
    case rel => exact ⟨i + 1, by go_num, by omega, rfl, HR4, HB4⟩
  · obtain rfl : i = l.length := by omega
    rw [List.take_length] at hys
    have HYS := Lib.hid hys
    clear hys
    go_wp2
    go_ret
    exact ⟨_, rfl, by rw [HYS.out]; exact HR3.out, HB.out⟩
theorem rnum1_is (w : World) (n : Nat) (hn : n < 9223372036854775808) :
 Calls Try.prog 112 #[.slice none 0 0, .slice (some ⟨w.heap.size, 0, none⟩) 1 1] (w.alloc (.cells #[.int .i64 (n : Int)] 3)) fun e w' => ∃ v', e = .returned v' ∧ BR w' w.heap.size v' (vb n) ∧ Below w.heap.size w w' := by
 have hbe : Below w.heap.size w (w.alloc (.cells #[.int .i64 (n : Int)] 3)) := (Below.refl _ _).alloc (Nat.le_refl _) _
 have h := rnumsB_is (w := w.alloc (.cells #[.int .i64 (n : Int)] 3)) (v := .slice none 0 0) (b := []) (Kd.R_nil _ _ _ _ _) (some ⟨w.heap.size, 0, none⟩) 1 [(n : Int)] (C_box w .i64 (n : Int) 3) (fun i hi => by have : i = 0 := (by simpa using hi); subst this; exact ⟨by show (0 : Int) ≤ (n : Int); omega, by show (n : Int) < _; omega⟩) (by simp) (by simp)
 rw [vbs_one, List.nil_append] at h
 refine h.mono ?_
 rintro e w1 ⟨v, rfl, hr, hb⟩
 exact ⟨v, rfl, Kd.R_lower hr hbe.size, hbe.trans (hb.mono hbe.size)⟩
set_option maxHeartbeats 8000000 in
theorem rwrap_is (A0 : Option Addr) (c0 : Nat) (b : List Int) (w : World) (hr : Kd.C (Kd.int .u8) w A0 b.length b) (hB : areBytesN b = true) :
 Calls Try.prog 119 #[.slice A0 b.length c0] w fun e w' => ∃ v, e = .returned (.tuple #[v, .int .i64 (wrapF b).2]) ∧ BR w' w.heap.size v (wrapF b).1 ∧ Below w.heap.size w w' := by
 have hl63 : b.length ≤ 9223372036854775807 := hr.2.1
 have HR := Lib.hid hr
 have HB := Lib.hid hB
 clear hr hB
 unfold wrapF
 by_cases hbig : 65536 < b.length
 · rw [if_pos hbig]
   go_enter Try.func119, Try.ntmps119
   go_wp2
   go_ret2
   exact ⟨_, rfl, Kd.R_nil _ _ _ _ _, Below.refl _ _⟩
 rw [if_neg hbig]
 have h10 : (vb b.length).length ≤ 10 := vb_le_ten (by omega)
 have HN := Lib.hid (rnum1_is w b.length (by omega))
 obtain ⟨hs0, hs1⟩ := sumF_range b
 obtain ⟨s, hs⟩ : ∃ s, sumF b = s := ⟨_, rfl⟩
 rw [hs] at hs0 hs1
 have HS := Lib.hid hs
 clear hs
 go_enter Try.func119, Try.ntmps119
 go_upto_region 6 with (first
  | (go_at_call 112; refine HN.out.mono ?_; rintro e w1 ⟨v1, rfl, hr1, hb1⟩; obtain ⟨A1, k1, rfl, hk1, _⟩ := BR.len hr1; have HR1 := Lib.hid hr1; have HB1 := Lib.hid hb1; clear hr1 hb1 hk1)
  | (at_builtin; refine BR.append_ev (w := w1) HR1.out (Kd.C_below HR.out HB1.out) rfl (.tmp 13) (.tmp 14) rfl rfl rfl HB1.out.size (by omega) ?_; intro v2 w2 hr2 hb2 hat; obtain ⟨ys, hys⟩ : ∃ ys, vb b.length ++ b = ys := ⟨_, rfl⟩; rw [hys] at hr2; have hyl : ys.length ≤ 65546 := (by rw [← hys, List.length_append]; omega); have HYS := Lib.hid hys; clear hys; obtain ⟨A2, k2, rfl, hk2, _⟩ := BR.len hr2; have HR2 := Lib.hid hr2; have HB2 := Lib.hid (HB1.out.trans hb2); clear hr2 hb2 hat hk2)
  | (go_at_call 154; refine (rof_is A0 c0 b _ (Kd.C_below HR.out HB2.out) HB.out (by omega)).mono ?_; rintro e w3 ⟨rfl, hd⟩; rw [HS.out]; have hb := hd.below; have HR3 := Lib.hid (Kd.R_below HR2.out hb); have HB3 := Lib.hid (HB2.out.trans (hb.mono HB2.out.size)); clear hb hd))
 have hw4 : Below w3.heap.size w3 (w3.alloc (.cells #[.int .u8 (s / 16777216), .int .u8 (s / 65536 % 256), .int .u8 (s / 256 % 256), .int .u8 (s % 256)] 5)) := (Below.refl _ _).alloc (Nat.le_refl _) _
 have hC4 : Kd.C (Kd.int .u8) (w3.alloc (.cells #[.int .u8 (s / 16777216), .int .u8 (s / 65536 % 256), .int .u8 (s / 256 % 256), .int .u8 (s % 256)] 5)) (some ⟨w3.heap.size, 0, none⟩) 4 (be s) := C_block (ws := be s) (World.alloc_heap_new w3 _) (by simp [be])
 have HC4 := Lib.hid hC4
 have HR4 := Lib.hid (Kd.R_below HR3.out hw4)
 have HB4 := Lib.hid (HB3.out.trans (hw4.mono HB3.out.size))
 clear hC4 hw4
 go_wp2_with (at_builtin; go_must (refine BR.append_ev (w := w3.alloc (.cells #[.int .u8 (s / 16777216), .int .u8 (s / 65536 % 256), .int .u8 (s / 256 % 256), .int .u8 (s % 256)] 5)) HR4.out HC4.out rfl (.tmp 18) (.tmp 30) rfl rfl rfl HB4.out.size (by have : (be s).length = 4 := rfl; omega) ?_; intro v5 w5 hr5 hb5 hat; have HR5 := Lib.hid hr5; have HB5 := Lib.hid (HB4.out.trans hb5); clear hr5 hb5 hat))
 go_ret2
 refine ⟨_, rfl, ?_, HB5.out⟩
 show BR _ w.heap.size _ (vb b.length ++ b ++ be (sumF b))
 rw [HYS.out, HS.out]
 exact HR5.out
end Go.Proofs.Ytmbnjgnmblgjoaa.Man
end
section
namespace Go.Proofs.Ytmbnjgnmblgjoaa.Man
open Go.RowKit Go.Proofs.YtmbnjgnmblgjoaaW.PrintWords Go.Proofs.YtmbnjgnmblgjoaaW.PrintLast Go.Proofs.YtmbnjgnmblgjoaaW.PrintMore
set_option linter.unusedVariables false
set_option linter.unusedSimpArgs false
set_option maxRecDepth 100000
theorem or_at (k : Nat) (a c : Int) (hk : k ≤ 32) (h0 : 0 ≤ a) (h1 : a < 4294967296) (h2 : a % (2 : Int) ^ k = 0) (h3 : 0 ≤ c) (h4 : c < (2 : Int) ^ k) : Go.bits .or .u32 a c = a + c :=
 bits_join .u32 32 (by decide) (fun n q r => by have r' : n < 4294967296 := r; rw [IntKind.wrap_u32]; omega) k a c h0 h2 h1 h3 h4 (by have h5 : (2 : Nat) ^ k ≤ 2 ^ 32 := Nat.pow_le_pow_right (by decide) hk; have h6 : (2 : Int) ^ k ≤ 2 ^ 32 := (by exact_mod_cast h5); exact Int.lt_of_lt_of_le h4 h6)
set_option maxHeartbeats 8000000 in
theorem ropen_is (A0 : Option Addr) (c0 : Nat) (b : List Int) (p : Nat) (w : World) (hr : Kd.C (Kd.int .u8) w A0 b.length b) (hc : b.length ≤ c0) (hB : areBytesN b = true) (hl : b.length ≤ 140737488351232) (hp : p ≤ b.length) :
 Calls Try.prog 140 #[.slice A0 b.length c0, .int .i64 (p : Int)] w fun e w' => ∃ v, e = .returned (.tuple #[v, .int .i64 (openF b p).2.1, .int .i64 (openF b p).2.2]) ∧ BR w' w.heap.size v (openF b p).1 ∧ Below w.heap.size w w' := by
 have hg := getF_range b p hB
 have HR := Lib.hid hr
 have HB := Lib.hid hB
 have HG := Lib.hid (rget_is A0 c0 b p w hr hc hB hl)
 clear hr hB
 obtain ⟨R, hR⟩ : ∃ R, openF b p = R := ⟨_, rfl⟩
 rw [hR]
 unfold openF at hR
 obtain ⟨g, hgd⟩ : ∃ g, getF b p = g := ⟨_, rfl⟩
 rw [hgd] at hg HG hR
 have HGD := Lib.hid hgd
 clear hgd
 obtain ⟨n, nx, er⟩ := g
 simp only at hg HG hR
 have HBD : ∀ m, Below w.heap.size w (w.drewN m) := fun m => pw_below_drewN (Below.refl _ _) m
 by_cases h0 : er ≠ 0
 · rw [if_pos h0] at hR
   subst hR
   clear hg
   go_enter Try.func140, Try.ntmps140
   go_wp2_with (go_at_call 156; refine HG.out.mono ?_; rintro e w1 ⟨rfl, m, rfl⟩)
   go_ret3
   exact ⟨_, rfl, Kd.R_nil _ _ _ _ _, HBD _⟩
 obtain rfl : er = 0 := by omega
 obtain ⟨ha, h1, h2, h3⟩ := hg rfl
 clear h0 hg
 rw [if_neg (by simp)] at hR
 obtain ⟨N, rfl⟩ : ∃ N : Nat, n = (N : Int) := ⟨n.toNat, by omega⟩
 obtain ⟨X, rfl⟩ : ∃ X : Nat, nx = (X : Int) := ⟨nx.toNat, by omega⟩
 by_cases h4 : 65536 < (N : Int)
 · rw [if_pos h4] at hR
   subst hR
   go_enter Try.func140, Try.ntmps140
   go_wp2_with (go_at_call 156; refine HG.out.mono ?_; rintro e w1 ⟨rfl, m, rfl⟩)
   go_ret3
   exact ⟨_, rfl, Kd.R_nil _ _ _ _ _, HBD _⟩
 rw [if_neg h4] at hR
 have h4' : N ≤ 65536 := by omega
 have hW : IntKind.i64.wrap (N : Int) = (N : Int) := by rw [IntKind.wrap_i64]; omega
 by_cases h5 : (b.length : Int) - X < N + 4
 · rw [if_pos h5] at hR
   subst hR
   have h6 : (b.length : Int) - 4 < (X : Int) + N := by omega
   clear h5
   go_enter Try.func140, Try.ntmps140
   go_wp2_with (go_at_call 156; refine HG.out.mono ?_; rintro e w1 ⟨rfl, m, rfl⟩)
   go_ret3
   exact ⟨_, rfl, Kd.R_nil _ _ _ _ _, HBD _⟩
 rw [if_neg h5] at hR
 have h6 : ¬ (b.length : Int) - 4 < (X : Int) + N := by omega
 have h6' : X + N + 4 ≤ b.length := by omega
 obtain ⟨i0, hi0, hsz⟩ : ∃ i0, Try.prog.info? 5 = some i0 ∧ i0.size = 1 := by obtain ⟨i0, h, _, h2, _⟩ := info_parts info_u8; exact ⟨i0, h, h2⟩
 obtain ⟨Ax, hcx, hAx, hkx⟩ := print_mid_of (P := Try.prog) (Value.int .u8) 0 27 5 .i64 .i64 Try.underlying27 hi0 hsz A0 c0 b (X : Int) ((X : Int) + N) (by omega) (by omega) (by omega) hc
 have hCx := Kd.C_of_reads (h1 := fun _ => rfl) (hAx _ (Kd.reads_of_C HR.out))
 clear hAx hi0 hsz hkx
 have hBx : areBytesN ((b.take ((X : Int) + N).toNat).drop (X : Int).toNat) = true := areBytesN_drop (areBytesN_take HB.out _) _
 have hlx : ((b.take ((X : Int) + N).toNat).drop (X : Int).toNat).length ≤ 65536 := by rw [List.length_drop, List.length_take]; omega
 obtain ⟨E, hE⟩ : ∃ E, X + N = E := ⟨_, rfl⟩
 have hEN : (X : Int) + (N : Int) = (E : Int) := by omega
 obtain ⟨ad, ea, z0⟩ := Kd.at_int HR.out (E : Int) (by omega) (by omega)
 obtain ⟨ad1, ea1, z1⟩ := Kd.at_int HR.out ((E + 1 : Nat) : Int) (by omega) (by omega)
 obtain ⟨ad2, ea2, z2⟩ := Kd.at_int HR.out ((E + 2 : Nat) : Int) (by omega) (by omega)
 obtain ⟨ad3, ea3, z3⟩ := Kd.at_int HR.out ((E + 3 : Nat) : Int) (by omega) (by omega)
 subst ea
 cases ea1; cases ea2; cases ea3
 rw [Int.toNat_natCast] at z0 z1 z2 z3
 have e0 := getN_get HB.out (k := E) (by omega)
 have e1 := getN_get HB.out (k := E + 1) (by omega)
 have e2 := getN_get HB.out (k := E + 2) (by omega)
 have e3 := getN_get HB.out (k := E + 3) (by omega)
 have hrd : ∀ k : Nat, rd b (k : Int) = b.getD k 0 := fun k => by unfold rd; rw [Int.toNat_natCast]
 rw [hrd] at z0 z1 z2 z3
 have hmid : mid b (E : Int) ((E : Int) + 4) = [b.getD E 0, b.getD (E + 1) 0, b.getD (E + 2) 0, b.getD (E + 3) 0] := by
  have e4 : ((E : Int) + 4).toNat = E + 4 := by omega
  unfold mid
  rw [e4, Int.toNat_natCast]
  apply List.ext_getElem
  · rw [List.length_drop, List.length_take]; simp only [List.length_cons, List.length_nil]; omega
  · intro k q1 q2
    rw [List.length_drop, List.length_take] at q1
    have hk : k < 4 := by omega
    rw [List.getElem_drop, List.getElem_take]
    rcases (show k = 0 ∨ k = 1 ∨ k = 2 ∨ k = 3 by omega) with rfl | rfl | rfl | rfl <;> (simp only [List.getElem_cons_zero, List.getElem_cons_succ]; rw [getD_lt (by omega)]; try rfl)
 generalize b.getD E 0 = y0 at z0 e0 hmid
 generalize b.getD (E + 1) 0 = y1 at z1 e1 hmid
 generalize b.getD (E + 2) 0 = y2 at z2 e2 hmid
 generalize b.getD (E + 3) 0 = y3 at z3 e3 hmid
 obtain ⟨p0, q0⟩ := e0
 obtain ⟨p1, q1⟩ := e1
 obtain ⟨p2, q2⟩ := e2
 obtain ⟨p3, q3⟩ := e3
 rw [hEN, hmid] at hR
 unfold mid at hR
 rw [hEN] at hcx hCx hBx hlx
 obtain ⟨x, hx⟩ : ∃ x, (b.take (E : Int).toNat).drop (X : Int).toNat = x := ⟨_, rfl⟩
 rw [hx] at hCx hcx hBx hlx hR
 have HRR := Lib.hid hR
 have HCX := Lib.hid hCx
 have HBX := Lib.hid hBx
 clear hR hx hCx hBx hrd hmid
 have hE' : E + 4 ≤ b.length := by omega
 have h6E : ¬ (b.length : Int) - 4 < (E : Int) := by omega
 go_enter Try.func140, Try.ntmps140
 go_upto_region 11 with (go_at_call 156; refine HG.out.mono ?_; rintro e w1 ⟨rfl, m, rfl⟩)
 have hbd := HBD m
 obtain ⟨wD, hwD⟩ : ∃ wD, w.drewN m = wD := ⟨_, rfl⟩
 rw [hwD] at hbd ⊢
 have z0 := pw_cell_below hbd z0
 have z1 : wD.cell? ⟨ad.block, ad.off + (E + 1), none⟩ = some (.int .u8 y1) := (by have h := pw_cell_below hbd z1; simpa [Addr.add] using h)
 have z2 : wD.cell? ⟨ad.block, ad.off + (E + 2), none⟩ = some (.int .u8 y2) := (by have h := pw_cell_below hbd z2; simpa [Addr.add] using h)
 have z3 : wD.cell? ⟨ad.block, ad.off + (E + 3), none⟩ = some (.int .u8 y3) := (by have h := pw_cell_below hbd z3; simpa [Addr.add] using h)
 have HBW := Lib.hid hbd
 clear hwD hbd HBD
 have i0 : (E : Int) < b.length := by omega
 have i1 : (E : Int) + 1 < b.length := by omega
 have i2 : (E : Int) + 2 < b.length := by omega
 have i3 : (E : Int) + 3 < b.length := by omega
 have hEb : (E : Int) ≤ 140737488351232 := by omega
 have j1 : (0 : Int) ≤ (E : Int) + 1 := by omega
 have j2 : (0 : Int) ≤ (E : Int) + 2 := by omega
 have j3 : (0 : Int) ≤ (E : Int) + 3 := by omega
 have x1 : IntKind.i64.wrap ((E : Int) + 1) = (E : Int) + 1 := by rw [IntKind.wrap_i64]; omega
 have x2 : IntKind.i64.wrap ((E : Int) + 2) = (E : Int) + 2 := by rw [IntKind.wrap_i64]; omega
 have x3 : IntKind.i64.wrap ((E : Int) + 3) = (E : Int) + 3 := by rw [IntKind.wrap_i64]; omega
 have t1 : ((E : Int) + 1).toNat = E + 1 := by omega
 have t2 : ((E : Int) + 2).toNat = E + 2 := by omega
 have t3 : ((E : Int) + 3).toNat = E + 3 := by omega
 have u0 : IntKind.u32.wrap y0 = y0 := by rw [IntKind.wrap_u32]; omega
 have u1 : IntKind.u32.wrap y1 = y1 := by rw [IntKind.wrap_u32]; omega
 have u2 : IntKind.u32.wrap y2 = y2 := by rw [IntKind.wrap_u32]; omega
 have u3 : IntKind.u32.wrap y3 = y3 := by rw [IntKind.wrap_u32]; omega
 have v0 : IntKind.u32.wrap (y0 * 16777216) = y0 * 16777216 := by rw [IntKind.wrap_u32]; omega
 have v1 : IntKind.u32.wrap (y1 * 65536) = y1 * 65536 := by rw [IntKind.wrap_u32]; omega
 have v2 : IntKind.u32.wrap (y2 * 256) = y2 * 256 := by rw [IntKind.wrap_u32]; omega
 have o1 := or_at 24 (y0 * 16777216) (y1 * 65536) (by decide) (by omega) (by omega) (by show y0 * 16777216 % 16777216 = 0; omega) (by omega) (by show y1 * 65536 < 16777216; omega)
 have o2 := or_at 16 (y0 * 16777216 + y1 * 65536) (y2 * 256) (by decide) (by omega) (by omega) (by show (y0 * 16777216 + y1 * 65536) % 65536 = 0; omega) (by omega) (by show y2 * 256 < 65536; omega)
 have o3 := or_at 8 (y0 * 16777216 + y1 * 65536 + y2 * 256) y3 (by decide) (by omega) (by omega) (by show (y0 * 16777216 + y1 * 65536 + y2 * 256) % 256 = 0; omega) p3 (by show y3 < 256; omega)
 go_quiet (fail)
 go_upto_region 12 with (fail)
 have hbq : Below wD.heap.size wD (wD.drewN nq) := pw_below_drewN (Below.refl _ _) nq
 have HBE := Lib.hid (HBW.out.trans (hbq.mono HBW.out.size))
 obtain ⟨wE, hwE⟩ : ∃ wE, wD.drewN nq = wE := ⟨_, rfl⟩
 rw [hwE] at HBE ⊢
 clear hwE hbq z0 z1 z2 z3 x1 x2 x3 t1 t2 t3 u0 u1 u2 u3 v0 v1 v2 o1 o2 o3 i0 i1 i2 i3 j1 j2 j3
 obtain ⟨sy, hsy⟩ : ∃ sy, y0 * 16777216 + y1 * 65536 + y2 * 256 + y3 = sy := ⟨_, rfl⟩
 obtain ⟨sx, hsx⟩ : ∃ sx, sumF x = sx := ⟨_, rfl⟩
 have hd : R = if sy = sx then (x, (E : Int) + 4, 0) else ([], (p : Int), 10) := by
  have e : be4 [y0, y1, y2, y3] = sy := by rw [← hsy]; show ((y0 * 256 + y1) * 256 + y2) * 256 + y3 = _; omega
  have hR := HRR.out
  rw [e, hsx] at hR
  rw [← hR]
  by_cases hh : sy = sx
  · rw [if_pos hh, if_neg (by simpa using hh)]
  · rw [if_neg hh, if_pos hh]
 rw [hsy]
 have HSX := Lib.hid hsx
 have HD := Lib.hid hd
 clear hsy hsx hd HRR p0 p1 p2 p3 q0 q1 q2 q3
 have hb0 : Below wE.heap.size wE (wE.alloc (.cells #[] 5)) := (Below.refl _ _).alloc (Nat.le_refl _) _
 have HB0 := Lib.hid (HBE.out.trans (hb0.mono HBE.out.size))
 have HR0 := Lib.hid (br_empty wE w.heap.size HBE.out.size)
 have HCX0 := Lib.hid (Kd.C_below HCX.out HB0.out)
 clear hb0 HBE HBW
 have x4 : IntKind.i64.wrap ((E : Int) + 4) = (E : Int) + 4 := by rw [IntKind.wrap_i64]; omega
 go_upto_region 13 with (at_builtin; refine BR.append_ev (w := wE.alloc (.cells #[] 5)) HR0.out HCX0.out rfl (.tmp 75) (.tmp 79) rfl rfl rfl HB0.out.size (by simp only [List.length_nil]; omega) ?_; intro v2 w2 hr2 hb2 hat; rw [List.nil_append] at hr2; obtain ⟨A2, k2, rfl, hk2, hC2⟩ := BR.len hr2; have HC2 := Lib.hid hC2; have HK2 := Lib.hid hk2; have HR2 := Lib.hid hr2; have HB2 := Lib.hid (HB0.out.trans hb2); clear hr2 hb2 hat hk2 hC2)
 clear HR0 HCX0 HB0 HCX
 have HO := Lib.hid (rof_is A2 k2 x w2 HC2.out HBX.out (by omega))
 rw [HSX.out] at HO
 by_cases hne : sy = sx
 · subst hne
   have hR := HD.out
   rw [if_pos rfl] at hR
   subst hR
   go_wp2_with (go_at_call 154; refine HO.out.mono ?_; rintro e w3 ⟨rfl, hd⟩; have HB3 := Lib.hid hd.below; clear hd)
   go_ret3
   exact ⟨_, rfl, Kd.R_below HR2.out HB3.out, HB2.out.trans (HB3.out.mono HB2.out.size)⟩
 · have hR := HD.out
   rw [if_neg hne] at hR
   subst hR
   go_wp2_with (go_at_call 154; refine HO.out.mono ?_; rintro e w3 ⟨rfl, hd⟩; have HB3 := Lib.hid hd.below; clear hd)
   go_ret3
   exact ⟨_, rfl, Kd.R_nil _ _ _ _ _, HB2.out.trans (HB3.out.mono HB2.out.size)⟩
end Go.Proofs.Ytmbnjgnmblgjoaa.Man
end
section
namespace Go.Proofs.Ytmbnjgnmblgjoaa.Man
open Go.RowKit Go.Proofs.YtmbnjgnmblgjoaaW.PrintWords Go.Proofs.YtmbnjgnmblgjoaaW.PrintLast Go.Proofs.YtmbnjgnmblgjoaaW.PrintMore
set_option linter.unusedVariables false
set_option linter.unusedSimpArgs false
set_option maxRecDepth 100000
def RJAt (w : World) (J D : Nat) (v : Value) : Prop := w.heap[J]? = some (.cells #[.pointer (some ⟨D, 0, none⟩), v] 124 (0, 0))
theorem RJAt.c0 {w : World} {J D : Nat} {v : Value} (k : RJAt w J D v) : w.cell? ⟨J, 0, none⟩ = some (.pointer (some ⟨D, 0, none⟩)) := by simp [World.cell?, show w.heap[J]? = _ from k]
theorem RJAt.c1 {w : World} {J D : Nat} {v : Value} (k : RJAt w J D v) : w.cell? ⟨J, 1, none⟩ = some v := by simp [World.cell?, show w.heap[J]? = _ from k]
theorem RJAt.f {w : World} {J D : Nat} {v : Value} (k : RJAt w J D v) (j : Nat) : w.frozen? ⟨J, j, none⟩ = false := by simp [World.frozen?, show w.heap[J]? = _ from k]
theorem RJAt.lt {w : World} {J D : Nat} {v : Value} (k : RJAt w J D v) : J < w.heap.size := (Array.getElem?_eq_some_iff.1 k).1
theorem RJAt.put1 {w : World} {J D : Nat} {v : Value} (k : RJAt w J D v) (u : Value) : RJAt (w.setCell ⟨J, 1, none⟩ u) J D u := by
 unfold RJAt World.setCell
 simp [Array.getElem?_modify, show w.heap[J]? = _ from k]
theorem RJAt.ne {w w1 : World} {J D : Nat} {v : Value} (k : RJAt w J D v) (h : w1.heap[J]? = w.heap[J]?) : RJAt w1 J D v := h.trans k
structure RJS (w : World) (base J D : Nat) (vE v : Value) (es b : List Int) (s m : Int) : Prop where
 jat : RJAt w J D vE
 row : ∃ A c, vE = .slice A es.length c ∧ es.length ≤ c ∧ Kd.C (Kd.int .i64) w A es.length es
 typ : ∀ k, vE.ownBlock = some k → base ≤ k ∧ ∃ cs, w.heap[k]? = some (.cells cs 3 (0, 0))
 disk : RefS w base D v b s m
 jge : base ≤ J
section
variable {w w1 w2 : World} {base J D J' D' : Nat} {vE v vE' v' uE u : Value} {es es' b b' : List Int} {s m s' m' : Int}
theorem RJS.lt (h : RJS w base J D vE v es b s m) : J < w.heap.size := h.jat.lt
theorem RJS.move (h : RJS w base J D vE v es b s m) (hJ : w1.heap[J]? = w.heap[J]?) (hE : ∀ k, vE.ownBlock = some k → w1.heap[k]? = w.heap[k]?) (hd : RefS w1 base D v' b' s' m') : RJS w1 base J D vE v' es b' s' m' := by
 obtain ⟨A, c, rfl, hc, hC⟩ := h.row
 exact ⟨h.jat.ne hJ, ⟨A, c, rfl, hc, C_typ hC hE⟩, fun k hk => ⟨(h.typ k hk).1, by rw [hE k hk]; exact (h.typ k hk).2⟩, hd, h.jge⟩
theorem RJS.elt (h : RJS w base J D vE v es b s m) (k : Nat) (hk : vE.ownBlock = some k) : k < w.heap.size := by
 obtain ⟨_, cs, hc⟩ := h.typ k hk
 exact (Array.getElem?_eq_some_iff.1 hc).1
theorem RJS.below {n : Nat} (h : RJS w base J D vE v es b s m) (hb : Below n w w1) (hn : w.heap.size ≤ n) : RJS w1 base J D vE v es b s m :=
 h.move (hb.block _ (by have := h.lt; omega)) (fun k hk => hb.block _ (by have := h.elt k hk; omega)) (h.disk.below hb hn)
theorem RJS.neD (h : RJS w base J D vE v es b s m) : J ≠ D := fun e => by
 have h1 := h.jat
 have h2 := h.disk.cells
 subst e
 unfold RJAt at h1
 unfold RefAt at h2
 rw [h1] at h2
 cases h2
theorem RJS.neV (h : RJS w base J D vE v es b s m) : some J ≠ v.ownBlock := fun e => by
 obtain ⟨_, _, cur, hc⟩ := h.disk.row.block e.symm
 rw [show w.heap[J]? = _ from h.jat] at hc
 cases hc
theorem RJS.eneD (h : RJS w base J D vE v es b s m) (k : Nat) (hk : vE.ownBlock = some k) : k ≠ D := fun e => by
 obtain ⟨_, cs, hc⟩ := h.typ k hk
 subst e
 rw [show w.heap[k]? = _ from h.disk.cells] at hc
 cases hc
theorem RJS.eneV (h : RJS w base J D vE v es b s m) (k : Nat) (hk : vE.ownBlock = some k) : some k ≠ v.ownBlock := fun e => by
 obtain ⟨_, cs, hc⟩ := h.typ k hk
 obtain ⟨_, _, cur, hc'⟩ := h.disk.row.block e.symm
 rw [hc] at hc'
 cases hc'
theorem RJS.acted (h : RJS w base J D vE v es b s m) (st : DStep w w1 D v v') (hd : RefS w1 base D v' b' s' m') : RJS w1 base J D vE v' es b' s' m' :=
 h.move (st.block _ h.lt h.neD h.neV) (fun k hk => st.block _ (h.elt k hk) (h.eneD k hk) (h.eneV k hk)) hd
theorem JStep.belowRJ (h : JStep w w1 J D v v' vE vE') (k : RJS w base J D vE v es b s m) : Below base w w1 :=
 ⟨h.os, h.tape, h.output, h.size, fun i hi => h.block i (by have := k.lt; have := k.jge; omega) (by have := k.jge; omega) (by have := k.disk.at_; omega) (fun e => by have := (k.disk.row.block e.symm).1; omega)⟩
end
end Go.Proofs.Ytmbnjgnmblgjoaa.Man
end
section
namespace Go.Proofs.Ytmbnjgnmblgjoaa.Man
open Go.RowKit Go.Proofs.YtmbnjgnmblgjoaaW.PrintWords Go.Proofs.YtmbnjgnmblgjoaaW.PrintLast Go.Proofs.YtmbnjgnmblgjoaaW.PrintMore
set_option linter.unusedVariables false
set_option linter.unusedSimpArgs false
set_option maxRecDepth 100000
def sureR (s : Int) : List Int → Nat
 | [] => 0
 | e :: es => if e ≤ s then sureR s es + 1 else 0
section
variable {w w1 w2 : World} {base J D : Nat} {vE v : Value} {es b : List Int} {s m : Int}
set_option maxHeartbeats 8000000 in
theorem rjsure_is (h : RJS w base J D vE v es b s m) : Calls Try.prog 85 #[.pointer (some ⟨J, 0, none⟩)] w fun e w' => e = .returned (.int .i64 (sureR s es : Int)) ∧ ∃ n, w' = w.drewN n := by
 have c0 := h.jat.c0
 have c1 := h.jat.c1
 have cs := h.disk.cells.c1
 obtain ⟨A, c, rfl, hc, hC⟩ := h.row
 have hl : es.length ≤ 9223372036854775807 := hC.2.1
 have HC := Lib.hid hC
 clear h hC
 obtain ⟨R, hR⟩ : ∃ R, sureR s es = R := ⟨_, rfl⟩
 rw [hR]
 have HR := Lib.hid hR
 clear hR
 go_enter Try.func85, Try.ntmps85
 go_wp2
 go_loopg [3] es.length (fun g s3 wr => ∃ k n : Nat, s3 = .int .i64 k ∧ k ≤ es.length ∧ g = es.length - k ∧ wr = w.drewN n ∧ Hid (k + sureR s (es.drop k) = R))
 case atStart => exact ⟨0, 0, rfl, Nat.zero_le _, rfl, rfl, Lib.hid (by rw [Nat.zero_add]; exact HR.out)⟩
 case round =>
  clear HR
  obtain ⟨k, n, rfl, hk, hg, rfl, HR⟩ := hrel
  have d0 : (w.drewN n).cell? ⟨J, 0, none⟩ = some (.pointer (some ⟨D, 0, none⟩)) := by simpa using c0
  have d1 : (w.drewN n).cell? ⟨J, 1, none⟩ = some (.slice A es.length c) := by simpa using c1
  have ds : (w.drewN n).cell? ⟨D, 1, none⟩ = some (.int .i64 s) := by simpa using cs
  by_cases hlt : k < es.length
  · obtain ⟨ad, e1, hcell⟩ := Kd.at_int HC.out (k : Int) (by omega) (by omega)
    subst e1
    have hrd : rd es (k : Int) = es[k] := by unfold rd; rw [Int.toNat_natCast]; simp [List.getD, hlt]
    rw [hrd, Int.toNat_natCast] at hcell
    have hR := HR.out
    rw [List.drop_eq_getElem_cons hlt] at hR
    unfold sureR at hR
    generalize es[k] = y at hR hcell
    have d2 : (w.drewN n).cell? (ad.add k) = some (.int .i64 y) := by simpa using hcell
    clear hrd HR
    have hw2 : (k : Int) < (es.length : Int) := by omega
    have t0 : decide ((k : Int) < (es.length : Int)) = true := by simpa using hlt
    by_cases hy : y ≤ s
    · rw [if_pos hy] at hR
      have HR : Hid (k + 1 + sureR s (es.drop (k + 1)) = R) := Lib.hid (by omega)
      have t1 : decide (y ≤ s) = true := by simpa using hy
      clear hR
      go_wp2
      go_quiet (fail)
      go_wp2
      go_roundg (es.length - (k + 1))
      case measure => omega
      case rel => exact ⟨k + 1, _, by go_num, by omega, rfl, by first | rfl | rw [World.drewN_drewN], HR⟩
    · rw [if_neg hy] at hR
      have HR' : Hid (k = R) := Lib.hid (by omega)
      have t1 : decide (y ≤ s) = false := by simpa using hy
      clear hR
      go_wp2
      go_quiet (fail)
      go_wp2
      go_ret
      exact ⟨by rw [← HR'.out]; rfl, _, by first | rfl | rw [World.drewN_drewN]⟩
  · obtain rfl : k = es.length := by omega
    have hR := HR.out
    rw [List.drop_length] at hR
    have HR' : Hid (es.length = R) := Lib.hid hR
    have t0 : decide ((es.length : Int) < (es.length : Int)) = false := by simp
    clear hR HR
    go_wp2
    go_quiet (fail)
    go_wp2
    go_ret
    exact ⟨by rw [← HR'.out]; rfl, _, by first | rfl | rw [World.drewN_drewN]⟩
theorem rjcrash_bad (h : RJS w base J D vE v es b s m) (k : Int) (hk : k < 0) : Calls Try.prog 82 #[.pointer (some ⟨J, 0, none⟩), .int .i64 k] w fun e w' => e = .returned (.tuple #[.pointer none, .slice none 0 0, .int .i64 1]) ∧ w = w' := by
 have c0 := h.jat.c0
 clear h
 go_enter Try.func82, Try.ntmps82
 go_wp2_with (go_at_call 34; refine (refCrash_bad D k hk).mono ?_; rintro e w' ⟨rfl, rfl⟩)
 go_ret3
 exact ⟨rfl, rfl⟩
end
end Go.Proofs.Ytmbnjgnmblgjoaa.Man
end
section
namespace Go.Proofs.Ytmbnjgnmblgjoaa.Man
open Go.RowKit Go.Proofs.YtmbnjgnmblgjoaaW.PrintWords Go.Proofs.YtmbnjgnmblgjoaaW.PrintLast Go.Proofs.YtmbnjgnmblgjoaaW.PrintMore
set_option linter.unusedVariables false
set_option linter.unusedSimpArgs false
theorem rright_f (x : K.S111) (k : Nat) (hk : 1 ≤ k) : K.emenderref04_Right.f k x.f0 x.f1 x.f2 x.f3 = some (rightB x) := by
 obtain ⟨k, rfl⟩ : ∃ m, k = m + 1 := ⟨k - 1, by omega⟩
 obtain ⟨a, t, n, m⟩ := x
 unfold K.emenderref04_Right.f rightB
 simp only
 by_cases h0 : a = 0
 · subst h0
   rw [if_pos rfl]
   by_cases c0 : t = 0
   · rw [if_pos c0]
     have hp : K.emenderref04_Point.f n = some (decide (0 ≤ n ∧ n ≤ 1114111 ∧ n / 2048 ≠ 27)) := by
      unfold K.emenderref04_Point.f
      by_cases q0 : n ≥ 0
      · rw [if_pos q0]
        by_cases q1 : n ≤ 1114111
        · rw [if_pos q1]
          by_cases q2 : n < 55296
          · rw [if_pos q2]; congr 1; symm; rw [decide_eq_true_eq]; omega
          · rw [if_neg q2]; congr 1; rw [decide_eq_decide]; omega
        · rw [if_neg q1]; congr 1; symm; rw [decide_eq_false_iff_not]; omega
      · rw [if_neg q0]; congr 1; symm; rw [decide_eq_false_iff_not]; omega
     have hm : K.emenderref03_Right.f m = some (decide (0 ≤ m ∧ m ≤ 4)) := by
      unfold K.emenderref03_Right.f
      by_cases q0 : m ≥ 0
      · rw [if_pos q0]; congr 1; rw [decide_eq_decide]; omega
      · rw [if_neg q0]; congr 1; symm; rw [decide_eq_false_iff_not]; omega
     rw [hp, hm]
     simp only [Option.bind_some]
     by_cases q : 0 ≤ n ∧ n ≤ 1114111 ∧ n / 2048 ≠ 27
     · rw [if_pos (decide_eq_true q)]; congr 1; rw [Bool.eq_iff_iff]; simp only [decide_eq_true_eq]
       constructor
       · intro h; exact .inl ⟨trivial, c0, q.1, q.2.1, q.2.2, h.1, h.2⟩
       · rintro (h | h | h) <;> omega
     · rw [if_neg (by simpa using q)]; congr 1; symm; rw [decide_eq_false_iff_not]
       rintro (h | h | h)
       · exact q ⟨h.2.2.1, h.2.2.2.1, h.2.2.2.2.1⟩
       · omega
       · omega
   · rw [if_neg c0]; congr 1; symm; rw [decide_eq_false_iff_not]; omega
 · rw [if_neg h0]
   have go : K.emenderref04_Right.j0 (k + 1) a (decide (a = 1 ∨ a = 3)) a t n m = some (decide ((a = 0 ∧ t = 0 ∧ 0 ≤ n ∧ n ≤ 1114111 ∧ n / 2048 ≠ 27 ∧ 0 ≤ m ∧ m ≤ 4) ∨ (a = 2 ∧ t = 0 ∧ n = 0 ∧ m = 0) ∨ ((a = 1 ∨ a = 3) ∧ 0 < t ∧ t < 16 ∧ 0 ≤ n ∧ n < 16 ∧ m = 0))) := by
    rw [K.emenderref04_Right.j0]
    by_cases q : a = 1 ∨ a = 3
    · rw [if_pos (decide_eq_true q)]
      by_cases c1 : t ≥ 1
      · rw [if_pos c1]
        by_cases c2 : t < 16
        · rw [if_pos c2]
          by_cases c3 : n ≥ 0
          · rw [if_pos c3]
            by_cases c4 : n ≤ 15
            · rw [if_pos c4]; congr 1; rw [Bool.eq_iff_iff]; simp only [beq_iff_eq, decide_eq_true_eq]; omega
            · rw [if_neg c4]; congr 1; symm; rw [decide_eq_false_iff_not]; omega
          · rw [if_neg c3]; congr 1; symm; rw [decide_eq_false_iff_not]; omega
        · rw [if_neg c2]; congr 1; symm; rw [decide_eq_false_iff_not]; omega
      · rw [if_neg c1]; congr 1; symm; rw [decide_eq_false_iff_not]; omega
    · rw [if_neg (by simpa using q)]
      by_cases c2 : a = 2
      · rw [if_pos c2]
        by_cases c3 : t = 0
        · rw [if_pos c3]
          by_cases c4 : n = 0
          · rw [if_pos c4]; congr 1; rw [Bool.eq_iff_iff]; simp only [beq_iff_eq, decide_eq_true_eq]; omega
          · rw [if_neg c4]; congr 1; symm; rw [decide_eq_false_iff_not]; omega
        · rw [if_neg c3]; congr 1; symm; rw [decide_eq_false_iff_not]; omega
      · rw [if_neg c2]; congr 1; symm; rw [decide_eq_false_iff_not]; omega
   by_cases h1 : a = 1
   · rw [if_pos h1]
     have e : (a == 1) = decide (a = 1 ∨ a = 3) := by rw [Bool.eq_iff_iff]; simp only [beq_iff_eq, decide_eq_true_eq]; omega
     rw [e]; exact go
   · rw [if_neg h1]
     have e : (a == 3) = decide (a = 1 ∨ a = 3) := by rw [Bool.eq_iff_iff]; simp only [beq_iff_eq, decide_eq_true_eq]; omega
     rw [e]; exact go
theorem rstep_l0 (x : K.S24) (hl : x.f6.length ≤ 2048) : ∀ (d j k : Nat) (b : Bool), x.f6.length = j + d → d + 1 < k → K.emenderref09_Check.l0 k b (j : Int) x.f0 x.f1 x.f2 x.f3 x.f4 x.f5 x.f6 x.f7 = some (if b && (x.f6.drop j).all rightB then 0 else 1) := by
 intro d
 induction d with
 | zero =>
  intro j k b h hk
  obtain ⟨k, rfl⟩ : ∃ m, k = m + 1 := ⟨k - 1, by omega⟩
  rw [K.emenderref09_Check.l0, if_neg (by omega), List.drop_of_length_le (by omega)]
  cases b <;> rfl
 | succ d ih =>
  intro j k b h hk
  obtain ⟨k, rfl⟩ : ∃ m, k = m + 1 := ⟨k - 1, by omega⟩
  have e : x.f6.drop j = x.f6[j] :: x.f6.drop (j + 1) := by rw [List.drop_eq_getElem_cons]
  rw [K.emenderref09_Check.l0, if_pos (by omega), if_pos (show (0 : Int) ≤ (j : Int) by omega), rd_nat x.f6 j (by omega), rright_f _ k (by omega), Option.bind_some, wrap_succ j (by omega), ih (j + 1) k _ (by omega) (by omega), ih (j + 1) k _ (by omega) (by omega), e, List.all_cons]
  cases b
  · simp
  · simp only [if_true, Bool.true_and]
theorem rstep_j2 (k : Nat) (b : Bool) (x : K.S24) (hl : x.f6.length ≤ 2048) (hk : 2052 ≤ k) : K.emenderref09_Check.j2 k b x.f0 x.f1 x.f2 x.f3 x.f4 x.f5 x.f6 x.f7 = some (if b && x.f6.all rightB then 0 else 1) := by
 obtain ⟨k, rfl⟩ : ∃ m, k = m + 1 := ⟨k - 1, by omega⟩
 rw [K.emenderref09_Check.j2]
 have := rstep_l0 x hl x.f6.length 0 k b (by omega) (by omega)
 rw [List.drop_zero] at this
 exact this
def kindOk2 (g : Bool) (x : K.S24) : Bool :=
 if x.f0 = 1 then decide (x.f1 ≤ x.f3 ∧ x.f3 < x.f4 ∧ x.f4 ≤ x.f2 ∧ 0 ≤ x.f5 ∧ x.f5 ≤ (x.f6.length : Int) ∧ x.f7 = 0)
 else if x.f0 = 0 then x.f7 == 0 && g
 else if x.f0 = 2 ∨ x.f0 = 3 then decide (x.f1 < x.f2) && (oneMark x.f7 && ((x.f6.length : Int) == 0 && g)) else false
theorem rstep_j1 (k : Nat) (g : Bool) (x : K.S24) (hl : x.f6.length ≤ 2048) (hk : 2053 ≤ k) : K.emenderref09_Check.j1 k g x.f0 x.f1 x.f2 x.f3 x.f4 x.f5 x.f6 x.f7 = some (if kindOk2 g x && x.f6.all rightB then 0 else 1) := by
 obtain ⟨k, rfl⟩ : ∃ m, k = m + 1 := ⟨k - 1, by omega⟩
 have hj := fun b => rstep_j2 k b x hl (by omega)
 obtain ⟨a0, a1, a2, a3, a4, a5, l, a7⟩ := x
 simp only at hl hj ⊢
 rw [K.emenderref09_Check.j1]
 simp only [hj]
 unfold kindOk2
 simp only
 by_cases h0 : a0 = 0
 · rw [if_pos h0, if_neg (show ¬ a0 = 1 by omega), if_pos h0]
   cases g <;> simp
 · rw [if_neg h0, if_neg h0]
   by_cases h1 : a0 = 1
   · rw [if_pos h1, if_pos h1]
     simp only [dec_and]
     by_cases q1 : a1 ≤ a3
     · by_cases q2 : a3 < a4
       · by_cases q3 : a4 ≤ a2
         · by_cases q4 : a5 ≥ 0
           · by_cases q5 : a5 ≤ (l.length : Int)
             · simp [q1, q2, q3, q4, q5]
             · simp [q1, q2, q3, q4, q5]
           · simp [q1, q2, q3, q4]
         · simp [q1, q2, q3]
       · simp [q1, q2]
     · simp [q1]
   · rw [if_neg h1, if_neg h1]
     have two : (if g = true then (if a1 < a2 then (if (l.length : Int) = 0 then (if a7 = 1 then some (if (true && l.all rightB) = true then (0 : Int) else 1) else (if a7 = 2 then some (if (true && l.all rightB) = true then 0 else 1) else some (if (a7 == 4 && l.all rightB) = true then 0 else 1))) else some (if (false && l.all rightB) = true then 0 else 1)) else some (if (false && l.all rightB) = true then 0 else 1)) else some (if (false && l.all rightB) = true then 0 else 1)) =
      some (if (decide (a1 < a2) && (oneMark a7 && ((l.length : Int) == 0 && g)) && l.all rightB) = true then 0 else 1) := by
      cases g
      · simp
      · by_cases q1 : a1 < a2
        · by_cases q2 : (l.length : Int) = 0
          · by_cases q3 : a7 = 1
            · subst q3; simp [q1, q2, oneMark]
            · by_cases q4 : a7 = 2
              · subst q4; simp [q1, q2, oneMark]
              · simp [q1, q2, q3, q4, oneMark]
          · rw [if_pos rfl, if_pos q1, if_neg q2, (show ((l.length : Int) == 0) = false by simpa using q2)]; simp
        · simp [q1]
     by_cases h2 : a0 = 2
     · rw [if_pos h2, if_pos (show a0 = 2 ∨ a0 = 3 from .inl h2)]; exact two
     · rw [if_neg h2]
       by_cases h3 : a0 = 3
       · rw [if_pos h3, if_pos (show a0 = 2 ∨ a0 = 3 from .inr h3)]; exact two
       · rw [if_neg h3, if_neg (show ¬ (a0 = 2 ∨ a0 = 3) by omega)]
theorem rstep_f (x : K.S24) (k : Nat) (hk : 2060 ≤ k) : K.emenderref09_Check.f k x.f0 x.f1 x.f2 x.f3 x.f4 x.f5 x.f6 x.f7 = some (stepE x) := by
 obtain ⟨k, rfl⟩ : ∃ m, k = m + 1 := ⟨k - 1, by omega⟩
 unfold K.emenderref09_Check.f stepE stepOk
 by_cases h : 2048 < x.f6.length
 · rw [if_pos (by omega), if_pos h]
 · rw [if_neg (by omega), if_neg h]
   have hj := fun g => rstep_j1 k g x (by omega) (by omega)
   have e : kindOk2 (gaps0 x) x = kindOk x := rfl
   have j0t : K.emenderref09_Check.j0 (k + 1) true x.f0 x.f1 x.f2 x.f3 x.f4 x.f5 x.f6 x.f7 = some 1 := by rw [K.emenderref09_Check.j0, if_pos rfl]
   have j0f : K.emenderref09_Check.j0 (k + 1) false x.f0 x.f1 x.f2 x.f3 x.f4 x.f5 x.f6 x.f7 = some (if kindOk x && x.f6.all rightB then 0 else 1) := by
    rw [K.emenderref09_Check.j0, if_neg (by decide)]
    simp only [hj]
    rw [← e]
    unfold gaps0
    by_cases a : x.f3 = 0
    · by_cases b : x.f4 = 0
      · rw [if_pos a, if_pos b]; simp [a, b]
      · rw [if_pos a, if_neg b, show (x.f4 == 0) = false by simpa using b]; simp
    · rw [if_neg a, show (x.f3 == 0) = false by simpa using a]; simp
   by_cases a : x.f1 < 0
   · rw [if_pos a, j0t, decide_eq_false (by omega)]; rfl
   · rw [if_neg a]
     by_cases b : x.f1 > x.f2
     · rw [if_pos b, j0t, decide_eq_false (by omega)]; rfl
     · rw [if_neg b]
       by_cases c : x.f2 > 2048
       · rw [decide_eq_true c, j0t, decide_eq_false (by omega)]; rfl
       · rw [decide_eq_false c, j0f, decide_eq_true (show 0 ≤ x.f1 ∧ x.f1 ≤ x.f2 ∧ x.f2 ≤ 2048 by omega), Bool.true_and]
theorem rentryE_f (x : K.S26) (k : Nat) (hk : 2060 ≤ k) : K.emenderref16_check.f k x.f0 x.f1 x.f2.f0 x.f2.f1 x.f2.f2 x.f2.f3 x.f2.f4 x.f2.f5 x.f2.f6 x.f2.f7 = some (entryE x) := by
 unfold K.emenderref16_check.f entryE
 by_cases a : x.f0 < 0
 · rw [if_pos a, if_pos (by omega)]
 rw [if_neg a]
 by_cases b : x.f0 ≥ 4
 · rw [if_pos b, if_pos (by omega)]
 rw [if_neg b]
 by_cases c : x.f1 < 0
 · rw [if_pos c, if_pos (by omega)]
 rw [if_neg c]
 by_cases d : x.f1 > 2147483647
 · rw [if_pos d, if_pos (by omega)]
 rw [if_neg d, if_neg (by omega), rstep_f x.f2 k hk, Option.bind_some]
end Go.Proofs.Ytmbnjgnmblgjoaa.Man
end
section
namespace Go.Proofs.Ytmbnjgnmblgjoaa.Man
open Go.RowKit Go.Proofs.YtmbnjgnmblgjoaaW.PrintWords Go.Proofs.YtmbnjgnmblgjoaaW.PrintLast Go.Proofs.YtmbnjgnmblgjoaaW.PrintMore
set_option linter.unusedVariables false
set_option linter.unusedSimpArgs false
set_option maxRecDepth 100000
theorem rcheck_is (x : K.S26) (A : Option Addr) (c : Nat) (w : World) (hr : Kd.C K.k111 w A x.f2.f6.length x.f2.f6) (hc : x.f2.f6.length ≤ c) :
 Calls Try.prog 107 #[entV x A c] w fun e w' => e = .returned (.int .i64 (entryE x)) ∧ Below w.heap.size w w' :=
 K.emenderref16_check.calls 2060 _ _ _ _ _ _ _ _ A c _ _ _ w hr hc (rentryE_f x 2060 (by decide))
set_option maxHeartbeats 8000000 in
theorem rputEntry_is (x : K.S26) (A : Option Addr) (c : Nat) (w : World) (hr : Kd.C K.k111 w A x.f2.f6.length x.f2.f6) (hc : x.f2.f6.length ≤ c) :
 Calls Try.prog 51 #[entV x A c] w fun e w' => ∃ v, e = .returned (.tuple #[v, .int .i64 (entryE x)]) ∧ BC w' v (putEntryF x).1 ∧ Below w.heap.size w w' := by
 unfold putEntryF
 simp only
 obtain ⟨w1, hw1⟩ : ∃ w1, w1 = w.alloc (entO x A c) := ⟨_, rfl⟩
 have hb1 : Below w.heap.size w w1 := by rw [hw1]; exact (Below.refl _ _).alloc (Nat.le_refl _) _
 have hE1 : EntAt w1 w.heap.size x A c := by rw [hw1]; exact World.alloc_heap_new w _
 have hD := rcheck_is x A c w1 (Kd.C_below hr hb1) hc
 rw [hw1] at hD
 have hz := @entryE_zero x
 obtain ⟨er, her⟩ : ∃ er, entryE x = er := ⟨_, rfl⟩
 rw [her] at hD hz ⊢
 have HD := Lib.hid hD
 have HC := Lib.hid hr
 have HB1 := Lib.hid hb1
 have HE1 := Lib.hid hE1
 have HW1 : Hid (w1 = w.alloc (entO x A c)) := Lib.hid hw1
 clear hr her hD hb1 hE1 hw1
 by_cases h0 : er = 0
 · subst h0
   have HOK := Lib.hid (hz rfl)
   clear hz
   rw [if_pos rfl]
   go_enter Try.func51, Try.ntmps51
   go_upto_region 4 with (go_at_call 107; refine HD.out.mono ?_; rintro e w2 ⟨rfl, hb⟩; rw [← HW1.out] at hb; have HX2 := Lib.hid hb; clear hb)
   have hE3 : EntAt w2 w.heap.size x A c := (HX2.out.block _ HE1.out.lt).trans HE1.out
   obtain ⟨c0, c1, c2, c3, c4, c5, c6, c7, c8, c9⟩ := hE3.c
   have HB2 := Lib.hid (HB1.out.trans (HX2.out.mono HB1.out.size))
   have HO := Lib.hid (rentryw_is (BC.nil w2) x A c (Kd.C_below HC.out HB2.out) HOK.out (by simp))
   clear hE3
   go_wp2_with (go_at_call 108; refine HO.out.mono ?_; rintro e w3 ⟨v3, rfl, hr, hb⟩; rw [List.nil_append] at hr; have HR := Lib.hid hr; have HB3 := Lib.hid (HB2.out.trans (hb.mono HB2.out.size)); clear hr hb)
   go_ret2
   exact ⟨_, rfl, HR.out, HB3.out⟩
 · rw [if_neg h0]
   have hb : (er != 0) = true := by simpa using h0
   clear h0 hz
   go_enter Try.func51, Try.ntmps51
   go_wp2_with (go_at_call 107; refine HD.out.mono ?_; rintro e w2 ⟨rfl, hb⟩; rw [← HW1.out] at hb; have HB2 := Lib.hid (HB1.out.trans (hb.mono HB1.out.size)); clear hb)
   go_ret2
   exact ⟨_, rfl, BC.nil _, HB2.out⟩
end Go.Proofs.Ytmbnjgnmblgjoaa.Man
end
section
namespace Go.Proofs.Ytmbnjgnmblgjoaa.Man
open Go.RowKit Go.Proofs.YtmbnjgnmblgjoaaW.PrintWords Go.Proofs.YtmbnjgnmblgjoaaW.PrintLast Go.Proofs.YtmbnjgnmblgjoaaW.PrintMore
set_option linter.unusedVariables false
set_option linter.unusedSimpArgs false
set_option maxRecDepth 100000
end Go.Proofs.Ytmbnjgnmblgjoaa.Man
end
section
namespace Go.Proofs.Ytmbnjgnmblgjoaa.Man
open Go.RowKit Go.Proofs.YtmbnjgnmblgjoaaW.PrintWords Go.Proofs.YtmbnjgnmblgjoaaW.PrintLast Go.Proofs.YtmbnjgnmblgjoaaW.PrintMore
set_option linter.unusedVariables false
set_option linter.unusedSimpArgs false
set_option maxRecDepth 100000
abbrev Left := List Int × Int
def nnum (top : Int) (s : Left) : Int × Left := if s.2 ≠ 0 then (0, s) else match rnum top s.1 with | .ok (n, r) => (n, (r, 0)) | .error f => (0, (s.1, f))
def RdAt (w : World) (P : Nat) (A : Option Addr) (c n : Nat) (p : Nat) (e : Int) : Prop := w.heap[P]? = some (.cells #[.slice A n c, .int .i64 (p : Int), .int .i64 e] 180 (0, 0))
section
variable {w w1 : World} {P c n p : Nat} {A : Option Addr} {e : Int}
theorem RdAt.c0 (k : RdAt w P A c n p e) : w.cell? ⟨P, 0, none⟩ = some (.slice A n c) := by simp [World.cell?, show w.heap[P]? = _ from k]
theorem RdAt.c1 (k : RdAt w P A c n p e) : w.cell? ⟨P, 1, none⟩ = some (.int .i64 (p : Int)) := by simp [World.cell?, show w.heap[P]? = _ from k]
theorem RdAt.c2 (k : RdAt w P A c n p e) : w.cell? ⟨P, 2, none⟩ = some (.int .i64 e) := by simp [World.cell?, show w.heap[P]? = _ from k]
theorem RdAt.f (k : RdAt w P A c n p e) (i : Nat) : w.frozen? ⟨P, i, none⟩ = false := by simp [World.frozen?, show w.heap[P]? = _ from k]
theorem RdAt.lt (k : RdAt w P A c n p e) : P < w.heap.size := (Array.getElem?_eq_some_iff.1 k).1
theorem RdAt.put (k : RdAt w P A c n p e) (q : Nat) : RdAt (w.setCell ⟨P, 1, none⟩ (.int .i64 (q : Int))) P A c n q e := by
 unfold RdAt World.setCell
 simp [Array.getElem?_modify, show w.heap[P]? = _ from k]
theorem RdAt.err (k : RdAt w P A c n p e) (f : Int) : RdAt (w.setCell ⟨P, 2, none⟩ (.int .i64 f)) P A c n p f := by
 unfold RdAt World.setCell
 simp [Array.getElem?_modify, show w.heap[P]? = _ from k]
theorem RdAt.below {m : Nat} (k : RdAt w P A c n p e) (h : Below m w w1) (hm : P < m) : RdAt w1 P A c n p e := (h.block P hm).trans k
end
def LeftAt (w : World) (P : Nat) (A : Option Addr) (c : Nat) (b : List Int) (s : Left) : Prop := ∃ q, q ≤ b.length ∧ s.1 = b.drop q ∧ RdAt w P A c b.length q s.2
theorem LeftAt.lt {w : World} {P c : Nat} {A : Option Addr} {b : List Int} {s : Left} (h : LeftAt w P A c b s) : P < w.heap.size := by obtain ⟨q, _, _, k⟩ := h; exact k.lt
theorem LeftAt.below {w w1 : World} {P c m : Nat} {A : Option Addr} {b : List Int} {s : Left} (h : LeftAt w P A c b s) (hb : Below m w w1) (hm : P < m) : LeftAt w1 P A c b s := by obtain ⟨q, h1, h2, k⟩ := h; exact ⟨q, h1, h2, k.below hb hm⟩
theorem LeftAt.c2 {w : World} {P c : Nat} {A : Option Addr} {b : List Int} {s : Left} (h : LeftAt w P A c b s) : w.cell? ⟨P, 2, none⟩ = some (.int .i64 s.2) := by obtain ⟨q, _, _, k⟩ := h; exact k.c2
def rnumR3.T : Bool × List (List Nat × List Nat) := (true, [([], []), ([0], [0]), ([1], [1]), ([2], [2]), ([], []), ([4], [4]), ([5], [5]), ([6], [6]), ([3, 7], [3, 7]), ([8], [8]), ([9], [9]), ([9], [9]), ([9], [9]), ([10, 8, 0, 1, 2, 3, 4, 5, 6, 7, 8, 9, 10], [10]), ([11, 13, 0, 1, 2, 3, 4, 5, 6, 7, 8, 9, 10, 11, 13], [11]), ([12, 14, 0, 1, 2, 3, 4, 5, 6, 7, 8, 9, 10, 11, 12, 13, 14], [12])])
def rnumR3.B : List Nat := [0, 1, 3, 7, 0, 16, 48, 112, 255, 511, 1023, 1023, 1023, 2047, 12287, 32767]
theorem rnumR3.tab : rtab .any (opsOf Try.f133 3) = rnumR3.T := by kernel_rfl
theorem rnumR3.bits : waitsOk rnumR3.T.2 rnumR3.B = true := by kernel_rfl
set_option maxHeartbeats 8000000 in
theorem nnum_is {w : World} {P c : Nat} {A : Option Addr} {b : List Int} {s : Left} (k : LeftAt w P A c b s) (hC : Kd.C (Kd.int .u8) w A b.length b) (hc : b.length ≤ c) (hB : areBytesN b = true) (hl : b.length ≤ 140737488351232) (top : Int) (ht0 : 0 ≤ top) (ht1 : top ≤ 2147483647) :
 Calls Try.prog 133 #[.pointer (some ⟨P, 0, none⟩), .int .i64 top] w fun e w' => e = .returned (.int .i64 (nnum top s).1) ∧ LeftAt w' P A c b (nnum top s).2 ∧ w.grownBy w' (some P) := by
 obtain ⟨p, hp, hs, hk⟩ := k
 obtain ⟨l, er⟩ := s
 simp only at hs hk
 obtain ⟨X, hX⟩ : ∃ X, nnum top (l, er) = X := ⟨_, rfl⟩
 rw [hX]
 unfold nnum at hX
 simp only at hX
 have k2 := hk.c2
 by_cases h0 : er ≠ 0
 · rw [if_pos h0] at hX
   subst hX
   have hne : (er != 0) = true := by simpa using h0
   have HK := Lib.hid hk
   clear hk hC
   go_enter Try.func133, Try.ntmps133
   go_wp2
   go_ret
   exact ⟨rfl, ⟨p, hp, hs, HK.out⟩, World.grownBy.refl _ _⟩
 obtain rfl : er = 0 := by omega
 rw [if_neg h0] at hX
 subst hs
 rw [rnum_getF hp] at hX
 have HG := Lib.hid (fun (W : World) (hb : Below w.heap.size w W) => rget_is A c b p W (Kd.C_below hC hb) hc hB hl)
 have hgr := getF_range b p hB
 have HQ := Lib.hid (fun h => getF_spot (p := p) hB h)
 obtain ⟨⟨n, nx, er⟩, hg⟩ : ∃ g, getF b p = g := ⟨_, rfl⟩
 rw [hg] at HG HQ hgr hX
 simp only at HG HQ hgr hX
 have HX := Lib.hid hX
 clear hX
 have hS : w.cell? ⟨P, 0, none⟩ = some (.slice A b.length c) ∧ w.cell? ⟨P, 1, none⟩ = some (.int .i64 (p : Int)) := ⟨hk.c0, hk.c1⟩
 have HK := Lib.hid hk
 have kf := fun i => hk.f i
 clear hg hC hk
 go_enter Try.func133, Try.ntmps133
 go_upto_region 3 with (fail)
 refine start_ (n := 16) (S := fun w' => w'.cell? ⟨P, 0, none⟩ = some (.slice A b.length c) ∧ w'.cell? ⟨P, 1, none⟩ = some (.int .i64 (p : Int))) (ds := []) #[false, false, false, false, false, false, false, false, false, false, false, false, false, false, false, false] (by kernel_rfl) rfl rfl hS (fun hHeld => ?_); refine with_tabW rnumR3.tab rnumR3.bits (fun HT_ HW_ => ?_)
 refine pure_ (i := 0) (N := (some 14)) (v := ?_) (a' := ?_) #[true, false, false, false, false, false, false, false, false, false, false, false, false, false, false, false] rfl rfl (any_of HT_.out (by kernel_rfl)) (fun _ _ _ h => h) (Or.inl ⟨by rfl, ?_⟩) ?_ ?_
 rotate_left
 · intro w'
   go_simp
   with_reducible rfl
 rotate_left
 · simp only [Act.put, sA_, sB_, sC_, i64_w, i32_w]
   rfl
 refine pure_ (i := 1) (N := (some 15)) (v := ?_) (a' := ?_) #[true, true, false, false, false, false, false, false, false, false, false, false, false, false, false, false] rfl rfl (any_of HT_.out (by kernel_rfl)) (fun _ _ _ h => h) (Or.inl ⟨by rfl, ?_⟩) ?_ ?_
 rotate_left
 · intro w'
   go_simp
   with_reducible rfl
 rotate_left
 · simp only [Act.put, sA_, sB_, sC_, i64_w, i32_w]
   rfl
 refine pure_ (i := 2) (N := (some 16)) (v := ?_) (a' := ?_) #[true, true, true, false, false, false, false, false, false, false, false, false, false, false, false, false] rfl rfl (any_of HT_.out (by kernel_rfl)) (fun _ _ _ h => h) (Or.inl ⟨by rfl, ?_⟩) ?_ ?_
 rotate_left
 · intro w'
   go_simp
   with_reducible rfl
 rotate_left
 · simp only [Act.put, sA_, sB_, sC_, i64_w, i32_w]
   rfl
 refine pure_ (i := 4) (N := (some 18)) (v := ?_) (a' := ?_) #[true, true, true, false, true, false, false, false, false, false, false, false, false, false, false, false] rfl rfl (any_of HT_.out (by kernel_rfl)) (fun _ _ _ h => h) (Or.inl ⟨by rfl, ?_⟩) ?_ ?_
 rotate_left
 · intro w'
   go_simp
   with_reducible rfl
 rotate_left
 · simp only [Act.put, sA_, sB_, sC_, i64_w, i32_w]
   rfl
 refine pure_ (i := 5) (N := (some 19)) (v := ?_) (a' := ?_) #[true, true, true, false, true, true, false, false, false, false, false, false, false, false, false, false] rfl rfl (any_of HT_.out (by kernel_rfl)) (fun _ _ _ h => h) (Or.inl ⟨by rfl, ?_⟩) ?_ ?_
 rotate_left
 · intro w'
   go_simp
   with_reducible rfl
 rotate_left
 · simp only [Act.put, sA_, sB_, sC_, i64_w, i32_w]
   rfl
 refine pure_ (i := 6) (N := (some 20)) (v := ?_) (a' := ?_) #[true, true, true, false, true, true, true, false, false, false, false, false, false, false, false, false] rfl rfl (any_of HT_.out (by kernel_rfl)) (fun _ _ _ h => h) (Or.inl ⟨by rfl, ?_⟩) ?_ ?_
 rotate_left
 · intro w'
   go_simp
   with_reducible rfl
 rotate_left
 · simp only [Act.put, sA_, sB_, sC_, i64_w, i32_w]
   rfl
 refine take_ (i := 3) (N := (some 17)) (v := ?_) (a' := ?_) #[true, true, true, true, true, true, true, false, false, false, false, false, false, false, false, false] rfl rfl (take_ofW HT_.out HW_.out (by kernel_rfl)) (fun _ _ _ h => h) (Or.inl ⟨by rfl, ?_⟩) hHeld ?_ ?_
 rotate_left
 · rintro w' ⟨s0, s1⟩
   go_simp
   with_reducible rfl
 rotate_left
 · simp only [Act.put, sA_, sB_, sC_, i64_w, i32_w]
   rfl
 refine take_ (i := 7) (N := (some 21)) (v := ?_) (a' := ?_) #[true, true, true, true, true, true, true, true, false, false, false, false, false, false, false, false] rfl rfl (take_ofW HT_.out HW_.out (by kernel_rfl)) (fun _ _ _ h => h) (Or.inl ⟨by rfl, ?_⟩) hHeld ?_ ?_
 rotate_left
 · rintro w' ⟨s0, s1⟩
   go_simp
   with_reducible rfl
 rotate_left
 · simp only [Act.put, sA_, sB_, sC_, i64_w, i32_w]
   rfl
 refine one_ (i := 8) (N := (some 22)) #[true, true, true, true, true, true, true, true, true, false, false, false, false, false, false, false] rfl rfl (one_of HT_.out (by kernel_rfl)) (by decide) (fun K hK => ?_)
 refine goes_ Try.func156 (by kernel_rfl) rfl #[.slice A b.length c, .int .i64 (p : Int)] (by rfl) rfl rfl (by (try simp only [List.map_toArray, List.map_cons, List.map_nil]); first | done | rfl) ?_
 refine (HG.out _ (below_drew1 (Below.refl _ _))).mono ?_
 rintro e w3 ⟨rfl, m3, rfl⟩
 refine ⟨_, rfl, ?_⟩
 refine hK.out _ _ hS (fun hHeld => ?_)
 clear hK K
 refine norm_ (a' := ?_) ?_ ?_
 rotate_left
 · show Act.put _ (some 22) _ = _
   simp only [Act.put, sA_, sB_, sC_, i64_w, i32_w]
   rfl
 refine pure_ (i := 9) (N := (some 13)) (v := ?_) (a' := ?_) #[true, true, true, true, true, true, true, true, true, true, false, false, false, false, false, false] rfl rfl (any_of HT_.out (by kernel_rfl)) (fun _ _ _ h => h) (Or.inl ⟨by rfl, ?_⟩) ?_ ?_
 rotate_left
 · intro w'
   go_simp
   with_reducible rfl
 rotate_left
 · simp only [Act.put, sA_, sB_, sC_, i64_w, i32_w]
   rfl
 refine pure_ (i := 10) (N := (some 23)) (v := ?_) (a' := ?_) #[true, true, true, true, true, true, true, true, true, true, true, false, false, false, false, false] rfl rfl (any_of HT_.out (by kernel_rfl)) (fun _ _ _ h => h) (Or.inl ⟨by rfl, ?_⟩) ?_ ?_
 rotate_left
 · intro w'
   go_simp
   with_reducible rfl
 rotate_left
 · simp only [Act.put, sA_, sB_, sC_, i64_w, i32_w]
   rfl
 refine pure_ (i := 11) (N := (some 24)) (v := ?_) (a' := ?_) #[true, true, true, true, true, true, true, true, true, true, true, true, false, false, false, false] rfl rfl (any_of HT_.out (by kernel_rfl)) (fun _ _ _ h => h) (Or.inl ⟨by rfl, ?_⟩) ?_ ?_
 rotate_left
 · intro w'
   go_simp
   with_reducible rfl
 rotate_left
 · simp only [Act.put, sA_, sB_, sC_, i64_w, i32_w]
   rfl
 refine pure_ (i := 12) (N := (some 25)) (v := ?_) (a' := ?_) #[true, true, true, true, true, true, true, true, true, true, true, true, true, false, false, false] rfl rfl (any_of HT_.out (by kernel_rfl)) (fun _ _ _ h => h) (Or.inl ⟨by rfl, ?_⟩) ?_ ?_
 rotate_left
 · intro w'
   go_simp
   with_reducible rfl
 rotate_left
 · simp only [Act.put, sA_, sB_, sC_, i64_w, i32_w]
   rfl
 refine pure_ (i := 13) (N := (some 5)) (v := ?_) (a' := ?_) #[true, true, true, true, true, true, true, true, true, true, true, true, true, true, false, false] rfl rfl (any_of HT_.out (by kernel_rfl)) (fun _ _ _ h => h) (Or.inl ⟨by rfl, ?_⟩) ?_ ?_
 rotate_left
 · intro w'
   go_simp
   with_reducible rfl
 rotate_left
 · simp only [Act.put, sA_, sB_, sC_, i64_w, i32_w]
   rfl
 refine pure_ (i := 14) (N := (some 6)) (v := ?_) (a' := ?_) #[true, true, true, true, true, true, true, true, true, true, true, true, true, true, true, false] rfl rfl (any_of HT_.out (by kernel_rfl)) (fun _ _ _ h => h) (Or.inl ⟨by rfl, ?_⟩) ?_ ?_
 rotate_left
 · intro w'
   go_simp
   with_reducible rfl
 rotate_left
 · simp only [Act.put, sA_, sB_, sC_, i64_w, i32_w]
   rfl
 refine pure_ (i := 15) (N := (some 7)) (v := ?_) (a' := ?_) #[true, true, true, true, true, true, true, true, true, true, true, true, true, true, true, true] rfl rfl (any_of HT_.out (by kernel_rfl)) (fun _ _ _ h => h) (Or.inl ⟨by rfl, ?_⟩) ?_ ?_
 rotate_left
 · intro w'
   go_simp
   with_reducible rfl
 rotate_left
 · simp only [Act.put, sA_, sB_, sC_, i64_w, i32_w]
   rfl
 refine done_ (done_of HT_.out (by kernel_rfl)) ?_
 obtain ⟨W, hW⟩ : ∃ W, w.drew.drewN m3 = W := ⟨_, rfl⟩
 have hk2 : RdAt W P A c b.length p 0 := by rw [← hW]; exact HK.out
 have hgw : w.grownBy W (some P) := by rw [← hW]; exact (grown_of_below (below_drew1 (Below.refl _ _)) _).trans (grown_drewN _ _ _)
 rw [hW]
 have HK2 := Lib.hid hk2
 have HGW := Lib.hid hgw
 have c2 := hk2.c2
 have c1 := hk2.c1
 have kg := fun i => hk2.f i
 clear hW hk2 hgw HK k2 kf hS HG
 have hU : IntKind.u64.wrap top = top := by rw [IntKind.wrap_u64]; omega
 by_cases h1 : er ≠ 0
 · have t1 : (er == 0) = false := by simpa using h1
   have t2 : (er != 0) = true := by simpa using h1
   have hX := HX.out
   rw [if_pos h1] at hX
   subst hX
   clear hgr HQ h1 HX
   go_wp2
   go_ret
   exact ⟨rfl, ⟨p, hp, rfl, HK2.out.err er⟩, grownBy_set _ _ _ _ HGW.out⟩
 obtain rfl : er = 0 := by omega
 obtain ⟨q, hq, _, hqb⟩ := HQ.out rfl
 have hg0 := (hgr rfl).2.2.2
 subst hq
 have hX := HX.out
 rw [if_neg h1] at hX
 clear hgr HQ h1 HX
 by_cases h2 : top < n
 · have t1 : decide (top < n) = true := decide_eq_true h2
   rw [if_pos h2] at hX
   subst hX
   clear h2
   go_wp2
   go_ret
   exact ⟨rfl, ⟨p, hp, rfl, HK2.out.err 4⟩, grownBy_set _ _ _ _ HGW.out⟩
 · have t1 : decide (top < n) = false := decide_eq_false h2
   rw [if_neg h2, Int.toNat_natCast] at hX
   subst hX
   go_wp2
   go_ret
   exact ⟨rfl, ⟨q, hqb, rfl, HK2.out.put q⟩, grownBy_set _ _ _ _ HGW.out⟩
end Go.Proofs.Ytmbnjgnmblgjoaa.Man
end
section
namespace Go.Proofs.Ytmbnjgnmblgjoaa.Man
open Go.RowKit Go.Proofs.YtmbnjgnmblgjoaaW.PrintWords Go.Proofs.YtmbnjgnmblgjoaaW.PrintLast Go.Proofs.YtmbnjgnmblgjoaaW.PrintMore
set_option linter.unusedVariables false
set_option linter.unusedSimpArgs false
set_option maxRecDepth 100000
def ntok (s : Left) : K.S111 × Left :=
 if (nnum most s).1 % 4 = 0 then (⟨0, 0, (nnum most s).1 / 4, (nnum most (nnum most s).2).1⟩, (nnum most (nnum most s).2).2)
 else if (nnum most s).1 % 4 = 1 ∨ (nnum most s).1 % 4 = 3 then (⟨(nnum most s).1 % 4, (nnum most (nnum most s).2).1, (nnum most s).1 / 4, 0⟩, (nnum most (nnum most s).2).2)
 else (⟨2, 0, (nnum most s).1 / 4, 0⟩, (nnum most s).2)
def ntoks : Nat → Left → List K.S111 × Left
 | 0, s => ([], s)
 | n + 1, s => if s.2 = 0 then ((ntok s).1 :: (ntoks n (ntok s).2).1, (ntoks n (ntok s).2).2) else ([], s)
def ndoc (s : Left) : List K.S111 × Left := ntoks (nnum 2048 s).1.toNat (nnum 2048 s).2
theorem ntoks_stop (n : Nat) (s : Left) (h : s.2 ≠ 0) : ntoks n s = ([], s) := by
 cases n with
 | zero => rfl
 | succ n => rw [ntoks, if_neg h]
theorem nnum_range (top : Int) (s : Left) (ht : 0 ≤ top) : 0 ≤ (nnum top s).1 ∧ (nnum top s).1 ≤ top := by
 unfold nnum rnum
 split
 · exact ⟨Int.le_refl _, ht⟩
 · split
   · rename_i hr
     split at hr
     · cases hr
     · split at hr
       · cases hr
       · simp only [Except.ok.injEq, Prod.mk.injEq] at hr
         obtain ⟨rfl, _⟩ := hr
         exact ⟨by omega, by omega⟩
   · exact ⟨Int.le_refl _, ht⟩
theorem LeftAt.onB {w w1 : World} {P c : Nat} {A : Option Addr} {b : List Int} {s : Left} (h : LeftAt w P A c b s) (e : w1.heap[P]? = w.heap[P]?) : LeftAt w1 P A c b s := by obtain ⟨q, h1, h2, k⟩ := h; exact ⟨q, h1, h2, e.trans k⟩
set_option maxHeartbeats 16000000 in
theorem ndoc_is {w0 w : World} {P c : Nat} {A : Option Addr} {b : List Int} {s : Left} (hC : Kd.C (Kd.int .u8) w0 A b.length b) (hc : b.length ≤ c) (hB : areBytesN b = true) (hl : b.length ≤ 140737488351232) (hb : Below w0.heap.size w0 w) (hP : w0.heap.size ≤ P) (k : LeftAt w P A c b s) :
 Calls Try.prog 127 #[.pointer (some ⟨P, 0, none⟩)] w fun e w' => ∃ v, e = .returned v ∧ TR w' w.heap.size v (ndoc s).1 ∧ LeftAt w' P A c b (ndoc s).2 ∧ w.grownBy w' (some P) := by
 have hPl := k.lt
 have HG0 := Lib.hid (fun (W : World) (hg : w.grownBy W (some P)) (top : Int) (t : Left) (ht0 : 0 ≤ top) (ht1 : top ≤ 2147483647) (hk : LeftAt W P A c b t) => nnum_is hk (Kd.C_below hC (below_of_grown hb hg hP)) hc hB hl top ht0 ht1)
 obtain ⟨X, hX⟩ : ∃ X, ndoc s = X := ⟨_, rfl⟩
 rw [hX]
 unfold ndoc at hX
 have hN := HG0.out w (World.grownBy.refl _ _) 2048 s (by decide) (by decide) k
 have hr := nnum_range 2048 s (by decide)
 obtain ⟨⟨n, s1⟩, hs1⟩ : ∃ p, nnum 2048 s = p := ⟨_, rfl⟩
 rw [hs1] at hX hN hr
 simp only at hX hN hr
 obtain ⟨N, rfl⟩ : ∃ N : Nat, n = (N : Int) := ⟨n.toNat, by omega⟩
 rw [Int.toNat_natCast] at hX
 have hN2 : N ≤ 2048 := by omega
 have HN := Lib.hid hN
 have HX := Lib.hid hX.symm
 clear hC hb k hN hX hs1 hr
 go_enter Try.func127, Try.ntmps127
 go_wp2_with (go_at_call 133; refine HN.out.mono ?_; rintro e w2 ⟨rfl, hk, hg⟩; have HK2 := Lib.hid hk; have HG2 := Lib.hid hg; clear hk hg)
 go_loopg [4, 5] N (fun g s4 s5 wr => ∃ (i : Nat) (ys : List K.S111) (t : Left), s5 = .int .i64 i ∧ i ≤ N ∧ g = N - i ∧ ys.length = i ∧ Hid (X = (ys ++ (ntoks (N - i) t).1, (ntoks (N - i) t).2)) ∧ Hid (TR wr w.heap.size s4 ys) ∧ Hid (LeftAt wr P A c b t) ∧ Hid (w.grownBy wr (some P)))
 case atStart => exact ⟨0, [], s1, rfl, Nat.zero_le _, rfl, rfl, Lib.hid (by rw [HX.out, Nat.sub_zero, List.nil_append]), Lib.hid (Kd.R_nil _ _ _ _ _), HK2, HG2⟩
 case round =>
  clear HX HK2 HG2 HN
  obtain ⟨i, ys, t, rfl, hi, hg, hyl, HX, HT, HK, HG⟩ := hrel
  have r2 := HK.out.c2
  have stop1 : ntoks (N - i) t = ([], t) → X = (ys, t) := fun h => by rw [HX.out, h, List.append_nil]
  by_cases hlt : i < N
  · by_cases h0 : t.2 = 0
    · obtain ⟨d, hd⟩ : ∃ d, N - i = d + 1 := ⟨N - i - 1, by omega⟩
      have hd2 : N - (i + 1) = d := by omega
      have hX := HX.out
      rw [hd, ntoks, if_pos h0] at hX
      have t0 : (t.2 == 0) = true := by simpa using h0
      have hN := HG0.out wr HG.out most t (by decide) (by decide) HK.out
      have hr := nnum_range most t (by decide)
      have hx : X = ((ys ++ [(ntok t).1]) ++ (ntoks (N - (i + 1)) (ntok t).2).1, (ntoks (N - (i + 1)) (ntok t).2).2) := by rw [hX, hd2, List.append_assoc]; rfl
      unfold ntok at hx
      obtain ⟨⟨kk, t1⟩, ht1⟩ : ∃ p, nnum most t = p := ⟨_, rfl⟩
      rw [ht1] at hx hN hr
      simp only at hx hN hr
      unfold most at hN hr
      have HN := Lib.hid hN
      obtain ⟨a, ha⟩ : ∃ a, kk % 4 = a := ⟨_, rfl⟩
      have haa : a = 0 ∨ a = 1 ∨ a = 2 ∨ a = 3 := by omega
      rw [ha] at hx
      have HX2 := Lib.hid hx
      have hrem : kk.tmod 4 = a := by rw [Int.tmod_eq_emod_of_nonneg hr.1]; exact ha
      have hquo : kk.tdiv 4 = kk / 4 := Int.tdiv_eq_ediv_of_nonneg hr.1
      have hk0 := hr.1
      have hk1 := hr.2
      have HL4 : Hid (ys.length ≤ 4000) := Lib.hid (by omega)
      have hwz := HG.out.size
      have HA := Lib.hid ha
      clear hX hx hN hd hd2 ht1 stop1 HX ha hr
      go_upto_region 8 with (go_at_call 133; refine HN.out.mono ?_; rintro e w3 ⟨rfl, hk, hg⟩; have HK3 := Lib.hid hk; have HG3 := Lib.hid (HG.out.trans hg); have HT3 : Hid (TR w3 w.heap.size _ ys) := Lib.hid (Kd.R_mono (Kd.R_grown (Kd.R_bound HT.out) hg (fun j hj e => by have h1 := hj.2.1; have h2 := Option.some.inj e; omega)) (fun _ _ => trivial)); clear hk hg)
      rcases haa with rfl | rfl | rfl | rfl
      · have hx := HX2.out
        rw [if_pos rfl] at hx
        obtain ⟨wt, hwt⟩ : ∃ wt, w3.alloc (.cells #[.int .i64 0, .int .i64 0, .int .i64 (kk / 4), .int .i64 0] 111) = wt := ⟨_, rfl⟩
        have hbt : Below w3.heap.size w3 wt := by rw [← hwt]; exact (Below.refl _ _).alloc (Nat.le_refl _) _
        have hTK : TokAt wt w3.heap.size ⟨0, 0, kk / 4, 0⟩ := by rw [← hwt]; exact World.alloc_heap_new w3 _
        have hzt : wt.heap.size = w3.heap.size + 1 := by rw [← hwt]; exact World.size_alloc _ _
        rw [hwt]
        have e0 := hTK.c0
        have hKt := HK3.out.below hbt HK3.out.lt
        have hGt := HG3.out.trans (grown_of_below hbt _)
        have hN2 := HG0.out wt hGt most t1 (by decide) (by decide) hKt
        obtain ⟨⟨m, t2⟩, ht2⟩ : ∃ p, nnum most t1 = p := ⟨_, rfl⟩
        rw [ht2] at hx hN2
        simp only at hx hN2
        unfold most at hN2
        have HN2 := Lib.hid hN2
        have HXX := Lib.hid hx
        have HTK := Lib.hid hTK
        have HBT := Lib.hid hbt
        have HGT := Lib.hid hGt
        clear hN2 hx hTK hbt hGt hKt ht2 hwt hzt HX2 HN
        go_upto_region 12 with ((go_at_call 133; refine HN2.out.mono ?_; rintro e w4 ⟨rfl, hk, hg⟩; have HK4 := Lib.hid hk; have hT4 : TokAt w4 w3.heap.size ⟨0, 0, kk / 4, 0⟩ := (hg.block _ HTK.out.lt (by intro e; have e2 := Option.some.inj e; have := HK3.out.lt; omega)).trans HTK.out; have d0 := hT4.c0; have d1 := hT4.c1; have d2 := hT4.c2; have d3 := hT4.c3; have df := hT4.f 3; have HG4 := Lib.hid (HGT.out.trans hg); have HT4 := Lib.hid (TR.over HT3.out ((grown_of_below HBT.out _).trans hg) hPl w3.heap.size 3 (.int .i64 m) (Nat.le_refl _)); have HZ4 : Hid ((w4.setCell ⟨w3.heap.size, 3, none⟩ (.int .i64 m)).heap.size = w4.heap.size) := Lib.hid (by simp [World.setCell]); have HY4 : Hid (w.heap.size ≤ (w4.setCell ⟨w3.heap.size, 3, none⟩ (.int .i64 m)).heap.size) := Lib.hid (by rw [HZ4.out]; exact HG4.out.size); clear hk hg hT4))
        go_wp2_with ((at_builtin; have hq1 := HT4.out; have hq2 := HY4.out; refine TR.push_ev (w := w4.setCell ⟨w3.heap.size, 3, none⟩ (.int .i64 m)) (N := w4.heap.size) HZ4.out hq1 rfl (.tmp 46) (.tmp 48) rfl rfl rfl hq2 HL4.out ?_; clear hq1 hq2; intro v5 w5 hr5 hb5; have HT5 := Lib.hid hr5; have HG5 := Lib.hid (grown_onB (grown_setT HG4.out w3.heap.size 3 (.int .i64 m) HG3.out.size) hb5 (Nat.le_refl _)); have HK5 : Hid (LeftAt w5 P A c b t2) := Lib.hid (HK4.out.onB ((hb5.block _ hPl).trans (Below.heap_setCell w4 _ _ _ (by have := HK3.out.lt; show P ≠ w3.heap.size; omega)))); clear hr5 hb5))
        go_roundg (N - (i + 1))
        case measure => omega
        case rel => exact ⟨i + 1, ys ++ [⟨0, 0, kk / 4, m⟩], t2, by go_num, by omega, rfl, by rw [List.length_append, hyl]; rfl, HXX, HT5, HK5, HG5⟩
      · have hx := HX2.out
        rw [if_neg (by decide), if_pos (by decide)] at hx
        obtain ⟨wt, hwt⟩ : ∃ wt, w3.alloc (.cells #[.int .i64 1, .int .i64 0, .int .i64 (kk / 4), .int .i64 0] 111) = wt := ⟨_, rfl⟩
        have hbt : Below w3.heap.size w3 wt := by rw [← hwt]; exact (Below.refl _ _).alloc (Nat.le_refl _) _
        have hTK : TokAt wt w3.heap.size ⟨1, 0, kk / 4, 0⟩ := by rw [← hwt]; exact World.alloc_heap_new w3 _
        have hzt : wt.heap.size = w3.heap.size + 1 := by rw [← hwt]; exact World.size_alloc _ _
        rw [hwt]
        have e0 := hTK.c0
        have hKt := HK3.out.below hbt HK3.out.lt
        have hGt := HG3.out.trans (grown_of_below hbt _)
        have hN2 := HG0.out wt hGt most t1 (by decide) (by decide) hKt
        obtain ⟨⟨m, t2⟩, ht2⟩ : ∃ p, nnum most t1 = p := ⟨_, rfl⟩
        rw [ht2] at hx hN2
        simp only at hx hN2
        unfold most at hN2
        have HN2 := Lib.hid hN2
        have HXX := Lib.hid hx
        have HTK := Lib.hid hTK
        have HBT := Lib.hid hbt
        have HGT := Lib.hid hGt
        clear hN2 hx hTK hbt hGt hKt ht2 hwt hzt HX2 HN
        go_upto_region 12 with ((go_at_call 133; refine HN2.out.mono ?_; rintro e w4 ⟨rfl, hk, hg⟩; have HK4 := Lib.hid hk; have hT4 : TokAt w4 w3.heap.size ⟨1, 0, kk / 4, 0⟩ := (hg.block _ HTK.out.lt (by intro e; have e2 := Option.some.inj e; have := HK3.out.lt; omega)).trans HTK.out; have d0 := hT4.c0; have d1 := hT4.c1; have d2 := hT4.c2; have d3 := hT4.c3; have df := hT4.f 1; have HG4 := Lib.hid (HGT.out.trans hg); have HT4 := Lib.hid (TR.over HT3.out ((grown_of_below HBT.out _).trans hg) hPl w3.heap.size 1 (.int .i64 m) (Nat.le_refl _)); have HZ4 : Hid ((w4.setCell ⟨w3.heap.size, 1, none⟩ (.int .i64 m)).heap.size = w4.heap.size) := Lib.hid (by simp [World.setCell]); have HY4 : Hid (w.heap.size ≤ (w4.setCell ⟨w3.heap.size, 1, none⟩ (.int .i64 m)).heap.size) := Lib.hid (by rw [HZ4.out]; exact HG4.out.size); clear hk hg hT4))
        go_wp2_with ((at_builtin; have hq1 := HT4.out; have hq2 := HY4.out; refine TR.push_ev (w := w4.setCell ⟨w3.heap.size, 1, none⟩ (.int .i64 m)) (N := w4.heap.size) HZ4.out hq1 rfl (.tmp 46) (.tmp 48) rfl rfl rfl hq2 HL4.out ?_; clear hq1 hq2; intro v5 w5 hr5 hb5; have HT5 := Lib.hid hr5; have HG5 := Lib.hid (grown_onB (grown_setT HG4.out w3.heap.size 1 (.int .i64 m) HG3.out.size) hb5 (Nat.le_refl _)); have HK5 : Hid (LeftAt w5 P A c b t2) := Lib.hid (HK4.out.onB ((hb5.block _ hPl).trans (Below.heap_setCell w4 _ _ _ (by have := HK3.out.lt; show P ≠ w3.heap.size; omega)))); clear hr5 hb5))
        go_roundg (N - (i + 1))
        case measure => omega
        case rel => exact ⟨i + 1, ys ++ [⟨1, m, kk / 4, 0⟩], t2, by go_num, by omega, rfl, by rw [List.length_append, hyl]; rfl, HXX, HT5, HK5, HG5⟩
      · have hx := HX2.out
        rw [if_neg (by decide), if_neg (by decide)] at hx
        obtain ⟨wt, hwt⟩ : ∃ wt, w3.alloc (.cells #[.int .i64 2, .int .i64 0, .int .i64 (kk / 4), .int .i64 0] 111) = wt := ⟨_, rfl⟩
        have hbt : Below w3.heap.size w3 wt := by rw [← hwt]; exact (Below.refl _ _).alloc (Nat.le_refl _) _
        have hTK : TokAt wt w3.heap.size ⟨2, 0, kk / 4, 0⟩ := by rw [← hwt]; exact World.alloc_heap_new w3 _
        have hzt : wt.heap.size = w3.heap.size + 1 := by rw [← hwt]; exact World.size_alloc _ _
        rw [hwt]
        have e0 := hTK.c0
        have hKt := HK3.out.below hbt HK3.out.lt
        have hGt := HG3.out.trans (grown_of_below hbt _)
        have e1 := hTK.c1
        have e2 := hTK.c2
        have e3 := hTK.c3
        have HXX := Lib.hid hx
        have HKT := Lib.hid hKt
        have HGT := Lib.hid hGt
        have HTT : Hid (TR wt w.heap.size _ ys) := Lib.hid (HT3.out.grown (grown_of_below hbt (some P)) hPl)
        have HZT : Hid (w.heap.size ≤ wt.heap.size) := Lib.hid hGt.size
        clear hx hTK hbt hGt hKt hwt HX2 HN
        go_upto_region 12 with (fail)
        go_wp2_with (at_builtin; have hq1 := HTT.out; have hq2 := HZT.out; refine TR.push_ev (w := wt) (N := w3.heap.size + 1) hzt hq1 rfl (.tmp 46) (.tmp 48) rfl rfl rfl hq2 HL4.out ?_; clear hq1 hq2; intro v5 w5 hr5 hb5; have HT5 := Lib.hid hr5; have HG5 := Lib.hid (grown_onB HGT.out hb5 (Nat.le_refl _)); have HK5 : Hid (LeftAt w5 P A c b t1) := Lib.hid (HKT.out.onB (hb5.block _ hPl)); clear hr5 hb5)
        go_roundg (N - (i + 1))
        case measure => omega
        case rel => exact ⟨i + 1, ys ++ [⟨2, 0, kk / 4, 0⟩], t1, by go_num, by omega, rfl, by rw [List.length_append, hyl]; rfl, HXX, HT5, HK5, HG5⟩
      · have hx := HX2.out
        rw [if_neg (by decide), if_pos (by decide)] at hx
        obtain ⟨wt, hwt⟩ : ∃ wt, w3.alloc (.cells #[.int .i64 3, .int .i64 0, .int .i64 (kk / 4), .int .i64 0] 111) = wt := ⟨_, rfl⟩
        have hbt : Below w3.heap.size w3 wt := by rw [← hwt]; exact (Below.refl _ _).alloc (Nat.le_refl _) _
        have hTK : TokAt wt w3.heap.size ⟨3, 0, kk / 4, 0⟩ := by rw [← hwt]; exact World.alloc_heap_new w3 _
        have hzt : wt.heap.size = w3.heap.size + 1 := by rw [← hwt]; exact World.size_alloc _ _
        rw [hwt]
        have e0 := hTK.c0
        have hKt := HK3.out.below hbt HK3.out.lt
        have hGt := HG3.out.trans (grown_of_below hbt _)
        have hN2 := HG0.out wt hGt most t1 (by decide) (by decide) hKt
        obtain ⟨⟨m, t2⟩, ht2⟩ : ∃ p, nnum most t1 = p := ⟨_, rfl⟩
        rw [ht2] at hx hN2
        simp only at hx hN2
        unfold most at hN2
        have HN2 := Lib.hid hN2
        have HXX := Lib.hid hx
        have HTK := Lib.hid hTK
        have HBT := Lib.hid hbt
        have HGT := Lib.hid hGt
        clear hN2 hx hTK hbt hGt hKt ht2 hwt hzt HX2 HN
        go_upto_region 12 with ((go_at_call 133; refine HN2.out.mono ?_; rintro e w4 ⟨rfl, hk, hg⟩; have HK4 := Lib.hid hk; have hT4 : TokAt w4 w3.heap.size ⟨3, 0, kk / 4, 0⟩ := (hg.block _ HTK.out.lt (by intro e; have e2 := Option.some.inj e; have := HK3.out.lt; omega)).trans HTK.out; have d0 := hT4.c0; have d1 := hT4.c1; have d2 := hT4.c2; have d3 := hT4.c3; have df := hT4.f 1; have HG4 := Lib.hid (HGT.out.trans hg); have HT4 := Lib.hid (TR.over HT3.out ((grown_of_below HBT.out _).trans hg) hPl w3.heap.size 1 (.int .i64 m) (Nat.le_refl _)); have HZ4 : Hid ((w4.setCell ⟨w3.heap.size, 1, none⟩ (.int .i64 m)).heap.size = w4.heap.size) := Lib.hid (by simp [World.setCell]); have HY4 : Hid (w.heap.size ≤ (w4.setCell ⟨w3.heap.size, 1, none⟩ (.int .i64 m)).heap.size) := Lib.hid (by rw [HZ4.out]; exact HG4.out.size); clear hk hg hT4))
        go_wp2_with ((at_builtin; have hq1 := HT4.out; have hq2 := HY4.out; refine TR.push_ev (w := w4.setCell ⟨w3.heap.size, 1, none⟩ (.int .i64 m)) (N := w4.heap.size) HZ4.out hq1 rfl (.tmp 46) (.tmp 48) rfl rfl rfl hq2 HL4.out ?_; clear hq1 hq2; intro v5 w5 hr5 hb5; have HT5 := Lib.hid hr5; have HG5 := Lib.hid (grown_onB (grown_setT HG4.out w3.heap.size 1 (.int .i64 m) HG3.out.size) hb5 (Nat.le_refl _)); have HK5 : Hid (LeftAt w5 P A c b t2) := Lib.hid (HK4.out.onB ((hb5.block _ hPl).trans (Below.heap_setCell w4 _ _ _ (by have := HK3.out.lt; show P ≠ w3.heap.size; omega)))); clear hr5 hb5))
        go_roundg (N - (i + 1))
        case measure => omega
        case rel => exact ⟨i + 1, ys ++ [⟨3, m, kk / 4, 0⟩], t2, by go_num, by omega, rfl, by rw [List.length_append, hyl]; rfl, HXX, HT5, HK5, HG5⟩
    · have hX := stop1 (ntoks_stop _ _ h0)
      have t0 : (t.2 == 0) = false := by simpa using h0
      have HXX := Lib.hid hX
      clear stop1 HX hX
      go_wp2
      go_ret
      exact ⟨_, rfl, by rw [HXX.out]; exact HT.out, by rw [HXX.out]; exact HK.out, HG.out⟩
  · obtain rfl : i = N := by omega
    have HXX := Lib.hid (stop1 (by rw [Nat.sub_self, ntoks]))
    clear stop1 HX
    go_wp2
    go_ret
    exact ⟨_, rfl, by rw [HXX.out]; exact HT.out, by rw [HXX.out]; exact HK.out, HG.out⟩
end Go.Proofs.Ytmbnjgnmblgjoaa.Man
end
section
namespace Go.Proofs.Ytmbnjgnmblgjoaa.Man
open Go.RowKit Go.Proofs.YtmbnjgnmblgjoaaW.PrintWords Go.Proofs.YtmbnjgnmblgjoaaW.PrintLast Go.Proofs.YtmbnjgnmblgjoaaW.PrintMore
set_option linter.unusedVariables false
set_option linter.unusedSimpArgs false
set_option maxRecDepth 100000
def nentK (who seq k fm tt : Int) (s : Left) : K.S26 × Left :=
 if k = 0 then (match ndoc s with | (l, s) => (⟨who, seq, ⟨k, fm, tt, 0, 0, 0, l, 0⟩⟩, s))
 else if k = 1 then (match nnum most s with | (gf, s) => match nnum most s with | (gt, s) => match nnum most s with | (ins, s) => match ndoc s with | (l, s) => (⟨who, seq, ⟨k, fm, tt, gf, gt, ins, l, 0⟩⟩, s))
 else (match nnum most s with | (m, s) => (⟨who, seq, ⟨k, fm, tt, 0, 0, 0, [], m⟩⟩, s))
def nent (s : Left) : K.S26 × Left :=
 match nnum most s with | (who, s) => match nnum most s with | (seq, s) => match nnum 3 s with | (k, s) => match nnum most s with | (fm, s) => match nnum most s with | (tt, s) => nentK who seq k fm tt s
structure NeS (w W : World) (P : Nat) (A : Option Addr) (c : Nat) (b : List Int) (s : Left) (a0 a1 a2 a3 a4 a5 a6 a7 : Int) (v : Value) (a9 : Int) : Prop where
 left : LeftAt W P A c b s
 ent : EntC W (w.heap.size + 1) a0 a1 a2 a3 a4 a5 a6 a7 v a9
 res : EntC W w.heap.size 0 0 0 0 0 0 0 0 (.slice none 0 0) 0
 gr : w.grownBy W (some P)
 sz : w.heap.size + 2 ≤ W.heap.size
section
variable {w W W' : World} {P c : Nat} {A : Option Addr} {b : List Int} {s s' : Left} {a0 a1 a2 a3 a4 a5 a6 a7 a9 b0 b1 b2 b3 b4 b5 b6 b7 b9 : Int} {v v' : Value}
theorem NeS.num (h : NeS w W P A c b s a0 a1 a2 a3 a4 a5 a6 a7 v a9) (hP : P < w.heap.size) (hk : LeftAt W' P A c b s') (hg : W.grownBy W' (some P)) : NeS w W' P A c b s' a0 a1 a2 a3 a4 a5 a6 a7 v a9 :=
 ⟨hk, h.ent.ne (hg.block _ h.ent.lt (by intro e; have := Option.some.inj e; omega)), h.res.ne (hg.block _ h.res.lt (by intro e; have := Option.some.inj e; omega)), h.gr.trans hg, Nat.le_trans h.sz hg.size⟩
theorem NeS.put (h : NeS w W P A c b s a0 a1 a2 a3 a4 a5 a6 a7 v a9) (hP : P < w.heap.size) (i : Nat) (u : Value) (he : (#[.int .i64 a0, .int .i64 a1, .int .i64 a2, .int .i64 a3, .int .i64 a4, .int .i64 a5, .int .i64 a6, .int .i64 a7, v, .int .i64 a9] : Array Value).setIfInBounds i u = #[.int .i64 b0, .int .i64 b1, .int .i64 b2, .int .i64 b3, .int .i64 b4, .int .i64 b5, .int .i64 b6, .int .i64 b7, v', .int .i64 b9]) : NeS w (W.setCell ⟨w.heap.size + 1, i, none⟩ u) P A c b s b0 b1 b2 b3 b4 b5 b6 b7 v' b9 :=
 ⟨h.left.onB (heap_set_ne W _ i P u (by omega)), h.ent.put i u he, h.res.ne (heap_set_ne W _ i _ u (by omega)), grown_setT h.gr _ i u (by omega), by have := h.sz; simpa [World.setCell] using this⟩
end
theorem grown_setEnt {w w1 : World} {r : Option Nat} (hg : w.grownBy w1 r) (E : Nat) (hE : w.heap.size ≤ E) (b0 b1 b2 b3 b4 b5 b6 b7 : Int) (u : Value) (b9 : Int) : w.grownBy (setEnt w1 E b0 b1 b2 b3 b4 b5 b6 b7 u b9) r :=
 grown_setT (grown_setT (grown_setT (grown_setT (grown_setT (grown_setT (grown_setT (grown_setT (grown_setT (grown_setT hg E 0 _ hE) E 1 _ hE) E 2 _ hE) E 3 _ hE) E 4 _ hE) E 5 _ hE) E 6 _ hE) E 7 _ hE) E 8 _ hE) E 9 _ hE
set_option maxHeartbeats 32000000 in
theorem nent_is {w0 w : World} {P c : Nat} {A : Option Addr} {b : List Int} {s : Left} (hC : Kd.C (Kd.int .u8) w0 A b.length b) (hc : b.length ≤ c) (hB : areBytesN b = true) (hl : b.length ≤ 140737488351232) (hb : Below w0.heap.size w0 w) (hP : w0.heap.size ≤ P) (k : LeftAt w P A c b s) :
 Calls Try.prog 129 #[.pointer (some ⟨P, 0, none⟩)] w fun e w' => ∃ r, e = .returned r ∧ EntR w.heap.size (nent s).1 r w' ∧ LeftAt w' P A c b (nent s).2 ∧ w.grownBy w' (some P) := by
 have hPl := k.lt
 have HG0 := Lib.hid (fun (W : World) (hg : w.grownBy W (some P)) (top : Int) (t : Left) (ht0 : 0 ≤ top) (ht1 : top ≤ 2147483647) (hk : LeftAt W P A c b t) => nnum_is hk (Kd.C_below hC (below_of_grown hb hg hP)) hc hB hl top ht0 ht1)
 have HD0 := Lib.hid (fun (W : World) (hg : w.grownBy W (some P)) (t : Left) (hk : LeftAt W P A c b t) => ndoc_is hC hc hB hl (below_of_grown hb hg hP) hP hk)
 obtain ⟨w1, hw1⟩ : ∃ w1, w1 = (w.alloc (.cells #[.int .i64 0, .int .i64 0, .int .i64 0, .int .i64 0, .int .i64 0, .int .i64 0, .int .i64 0, .int .i64 0, .slice none 0 0, .int .i64 0] 26)).alloc (.cells #[.int .i64 0, .int .i64 0, .int .i64 0, .int .i64 0, .int .i64 0, .int .i64 0, .int .i64 0, .int .i64 0, .slice none 0 0, .int .i64 0] 26) := ⟨_, rfl⟩
 have hb1 : Below w.heap.size w w1 := by rw [hw1]; exact ((Below.refl _ _).alloc (Nat.le_refl _) _).alloc (by simp) _
 have hE1 : NeS w w1 P A c b s 0 0 0 0 0 0 0 0 (.slice none 0 0) 0 := ⟨k.below hb1 hPl, by rw [hw1]; have := World.alloc_heap_new (w.alloc (.cells #[.int .i64 0, .int .i64 0, .int .i64 0, .int .i64 0, .int .i64 0, .int .i64 0, .int .i64 0, .int .i64 0, .slice none 0 0, .int .i64 0] 26)) (.cells #[.int .i64 0, .int .i64 0, .int .i64 0, .int .i64 0, .int .i64 0, .int .i64 0, .int .i64 0, .int .i64 0, .slice none 0 0, .int .i64 0] 26); rwa [World.size_alloc] at this, by rw [hw1]; exact (Below.heap_alloc _ _ _ (by simp)).trans (World.alloc_heap_new w _), grown_of_below hb1 _, by rw [hw1]; simp⟩
 obtain ⟨X, hX⟩ : ∃ X, nent s = X := ⟨_, rfl⟩
 rw [hX]
 unfold nent at hX
 obtain ⟨⟨who, s1⟩, h1⟩ : ∃ p, nnum most s = p := ⟨_, rfl⟩
 obtain ⟨⟨seq, s2⟩, h2⟩ : ∃ p, nnum most s1 = p := ⟨_, rfl⟩
 obtain ⟨⟨kk, s3⟩, h3⟩ : ∃ p, nnum 3 s2 = p := ⟨_, rfl⟩
 obtain ⟨⟨fm, s4⟩, h4⟩ : ∃ p, nnum most s3 = p := ⟨_, rfl⟩
 obtain ⟨⟨tt, s5⟩, h5⟩ : ∃ p, nnum most s4 = p := ⟨_, rfl⟩
 have hr := nnum_range 3 s2 (by decide)
 rw [h3] at hr
 simp only at hr
 simp only [h1, h2, h3, h4, h5] at hX
 unfold nentK at hX
 have HX := Lib.hid hX
 have H1 := Lib.hid h1
 have H2 := Lib.hid h2
 have H3 := Lib.hid h3
 have H4 := Lib.hid h4
 have H5 := Lib.hid h5
 have HE1 := Lib.hid hE1
 have HW1 := Lib.hid hw1
 clear hC hB hb k hX h1 h2 h3 h4 h5 hb1 hE1 hw1
 go_enter Try.func129, Try.ntmps129
 go_upto_region 2 with (fail)
 rw [← HW1.out]
 clear HW1
 have hN := HG0.out _ HE1.out.gr most s (by decide) (by decide) HE1.out.left
 rw [H1.out] at hN
 unfold most at hN
 have HN := Lib.hid hN
 clear hN
 go_upto_region 3 with (go_at_call 133; refine HN.out.mono ?_; rintro e v1 ⟨rfl, hk, hg⟩; have HF1 := Lib.hid (HE1.out.num hPl hk hg); have hcc := HF1.out.ent.cells; have hff := HF1.out.ent.f 0; obtain ⟨q0, q1, q2, q3, q4, q5, q6, q7, q8, q9⟩ := hcc; clear hk hg)
 clear q0 q1 q2 q3 q4 q5 q6 q7 q8 q9 hff HN
 have HE2 : Hid (NeS w (v1.setCell ⟨w.heap.size + 1, 0, none⟩ (.int .i64 who)) P A c b s1 who 0 0 0 0 0 0 0 (.slice none 0 0) 0) := Lib.hid (HF1.out.put hPl 0 (.int .i64 who) rfl)
 obtain ⟨w2_, hw2_⟩ : ∃ q, (v1.setCell ⟨w.heap.size + 1, 0, none⟩ (.int .i64 who)) = q := ⟨_, rfl⟩
 rw [hw2_] at HE2 ⊢
 clear hw2_ HE1 HF1
 have hN := HG0.out _ HE2.out.gr most s1 (by decide) (by decide) HE2.out.left
 rw [H2.out] at hN
 unfold most at hN
 have HN := Lib.hid hN
 clear hN
 go_upto_region 4 with (go_at_call 133; refine HN.out.mono ?_; rintro e v2 ⟨rfl, hk, hg⟩; have HF2 := Lib.hid (HE2.out.num hPl hk hg); have hcc := HF2.out.ent.cells; have hff := HF2.out.ent.f 1; obtain ⟨q0, q1, q2, q3, q4, q5, q6, q7, q8, q9⟩ := hcc; clear hk hg)
 clear q0 q1 q2 q3 q4 q5 q6 q7 q8 q9 hff HN
 have HE3 : Hid (NeS w (v2.setCell ⟨w.heap.size + 1, 1, none⟩ (.int .i64 seq)) P A c b s2 who seq 0 0 0 0 0 0 (.slice none 0 0) 0) := Lib.hid (HF2.out.put hPl 1 (.int .i64 seq) rfl)
 obtain ⟨w3_, hw3_⟩ : ∃ q, (v2.setCell ⟨w.heap.size + 1, 1, none⟩ (.int .i64 seq)) = q := ⟨_, rfl⟩
 rw [hw3_] at HE3 ⊢
 clear hw3_ HE2 HF2
 have hN := HG0.out _ HE3.out.gr 3 s2 (by decide) (by decide) HE3.out.left
 rw [H3.out] at hN
 skip
 have HN := Lib.hid hN
 clear hN
 go_upto_region 5 with (go_at_call 133; refine HN.out.mono ?_; rintro e v3 ⟨rfl, hk, hg⟩; have HF3 := Lib.hid (HE3.out.num hPl hk hg); have hcc := HF3.out.ent.cells; have hff := HF3.out.ent.f 2; obtain ⟨q0, q1, q2, q3, q4, q5, q6, q7, q8, q9⟩ := hcc; clear hk hg)
 clear q0 q1 q2 q3 q4 q5 q6 q7 q8 q9 hff HN
 have HE4 : Hid (NeS w (v3.setCell ⟨w.heap.size + 1, 2, none⟩ (.int .i64 kk)) P A c b s3 who seq kk 0 0 0 0 0 (.slice none 0 0) 0) := Lib.hid (HF3.out.put hPl 2 (.int .i64 kk) rfl)
 obtain ⟨w4_, hw4_⟩ : ∃ q, (v3.setCell ⟨w.heap.size + 1, 2, none⟩ (.int .i64 kk)) = q := ⟨_, rfl⟩
 rw [hw4_] at HE4 ⊢
 clear hw4_ HE3 HF3
 have hN := HG0.out _ HE4.out.gr most s3 (by decide) (by decide) HE4.out.left
 rw [H4.out] at hN
 unfold most at hN
 have HN := Lib.hid hN
 clear hN
 go_upto_region 6 with (go_at_call 133; refine HN.out.mono ?_; rintro e v4 ⟨rfl, hk, hg⟩; have HF4 := Lib.hid (HE4.out.num hPl hk hg); have hcc := HF4.out.ent.cells; have hff := HF4.out.ent.f 3; obtain ⟨q0, q1, q2, q3, q4, q5, q6, q7, q8, q9⟩ := hcc; clear hk hg)
 clear q0 q1 q2 q3 q4 q5 q6 q7 q8 q9 hff HN
 have HE5 : Hid (NeS w (v4.setCell ⟨w.heap.size + 1, 3, none⟩ (.int .i64 fm)) P A c b s4 who seq kk fm 0 0 0 0 (.slice none 0 0) 0) := Lib.hid (HF4.out.put hPl 3 (.int .i64 fm) rfl)
 obtain ⟨w5_, hw5_⟩ : ∃ q, (v4.setCell ⟨w.heap.size + 1, 3, none⟩ (.int .i64 fm)) = q := ⟨_, rfl⟩
 rw [hw5_] at HE5 ⊢
 clear hw5_ HE4 HF4
 have hN := HG0.out _ HE5.out.gr most s4 (by decide) (by decide) HE5.out.left
 rw [H5.out] at hN
 unfold most at hN
 have HN := Lib.hid hN
 clear hN
 go_upto_region 7 with (go_at_call 133; refine HN.out.mono ?_; rintro e v5 ⟨rfl, hk, hg⟩; have HF5 := Lib.hid (HE5.out.num hPl hk hg); have hcc := HF5.out.ent.cells; have hff := HF5.out.ent.f 4; obtain ⟨q0, q1, q2, q3, q4, q5, q6, q7, q8, q9⟩ := hcc; clear hk hg)
 clear q0 q1 q2 q3 q4 q5 q6 q7 q8 q9 hff HN
 have HE6 : Hid (NeS w (v5.setCell ⟨w.heap.size + 1, 4, none⟩ (.int .i64 tt)) P A c b s5 who seq kk fm tt 0 0 0 (.slice none 0 0) 0) := Lib.hid (HF5.out.put hPl 4 (.int .i64 tt) rfl)
 obtain ⟨w6_, hw6_⟩ : ∃ q, (v5.setCell ⟨w.heap.size + 1, 4, none⟩ (.int .i64 tt)) = q := ⟨_, rfl⟩
 rw [hw6_] at HE6 ⊢
 clear hw6_ HE5 HF5
 have k2 := HE6.out.ent.cells.2.2.1
 have hX := HX.out
 clear HX
 by_cases c0 : kk = 0
 · subst c0
   rw [if_pos (show (0 : Int) = 0 from rfl)] at hX
   obtain ⟨⟨l, s6⟩, h6⟩ : ∃ p, ndoc s5 = p := ⟨_, rfl⟩
   rw [h6] at hX
   simp only at hX
   have H6 := Lib.hid h6
   have HY := Lib.hid hX.symm
   clear hX h6
   have HN := Lib.hid (HD0.out _ HE6.out.gr s5 HE6.out.left)
   go_upto_region 16 with (go_at_call 127; refine HN.out.mono ?_; rintro e v6 ⟨u, rfl, ht, hk, hg⟩; rw [H6.out] at hk ht; obtain ⟨A8, c8, rfl, _, _⟩ := TR.C ht; have HT1 := Lib.hid (Kd.R_lower ht HE6.out.sz); have HF6 := Lib.hid (HE6.out.num hPl hk hg); have hcc := HF6.out.ent.cells; have hff := HF6.out.ent.f 8; obtain ⟨q0, q1, q2, q3, q4, q5, q6, q7, q8, q9⟩ := hcc; clear hk hg ht)
   clear q0 q1 q2 q3 q4 q5 q6 q7 q8 q9 hff HN
   have HE7 : Hid (NeS w (v6.setCell ⟨w.heap.size + 1, 8, none⟩ (.slice A8 l.length c8)) P A c b s6 who seq 0 fm tt 0 0 0 (.slice A8 l.length c8) 0) := Lib.hid (HF6.out.put hPl 8 (.slice A8 l.length c8) rfl)
   have HT2 : Hid (TR (v6.setCell ⟨w.heap.size + 1, 8, none⟩ (.slice A8 l.length c8)) (w.heap.size + 2) (.slice A8 l.length c8) l) := Lib.hid (TR.set HT1.out (E := w.heap.size + 1) (by omega) 8 _)
   obtain ⟨w7_, hw7_⟩ : ∃ q, (v6.setCell ⟨w.heap.size + 1, 8, none⟩ (.slice A8 l.length c8)) = q := ⟨_, rfl⟩
   rw [hw7_] at HE7 HT2 ⊢
   clear hw7_ HE6 HF6 HT1
   obtain ⟨q0, q1, q2, q3, q4, q5, q6, q7, q8, q9⟩ := HE7.out.ent.cells
   obtain ⟨s0, s1_, s2_, s3_, s4_, s5_, s6_, s7_, s8_, s9_⟩ := HE7.out.res.cells
   have sf := HE7.out.res.f
   go_wp2
   obtain ⟨z0, z1, z2, z3, z4, z5, z6, z7, z8, z9⟩ := (HE7.out.res.set who seq 0 fm tt 0 0 0 (.slice A8 l.length c8) 0).cells
   unfold setEnt at z0 z1 z2 z3 z4 z5 z6 z7 z8 z9
   refine bodyPost_ret (v := .agg #[.int .i64 who, .int .i64 seq, .int .i64 0, .int .i64 fm, .int .i64 tt, .int .i64 0, .int .i64 0, .int .i64 0, (.slice A8 l.length c8), .int .i64 0]) (by simp [results, Try.results129, go_sem, z0, z1, z2, z3, z4, z5, z6, z7, z8, z9]) rfl ?_
   rw [HY.out]
   exact ⟨_, rfl, ⟨_, rfl, Kd.R_lower (HT2.out.setEnt (E := w.heap.size) (by omega) _ _ _ _ _ _ _ _ _ _) (by omega)⟩, HE7.out.left.onB (setEnt_ne _ _ _ _ _ _ _ _ _ _ _ _ _ (by omega)), grown_setEnt HE7.out.gr _ (Nat.le_refl _) who seq 0 fm tt 0 0 0 (.slice A8 l.length c8) 0⟩
 · by_cases c1 : kk = 1
   · subst c1
     rw [if_neg (show ¬ ((1 : Int) = 0) by decide), if_pos (show (1 : Int) = 1 from rfl)] at hX
     obtain ⟨⟨gf, s6⟩, h6⟩ : ∃ p, nnum most s5 = p := ⟨_, rfl⟩
     obtain ⟨⟨gt, s7⟩, h7⟩ : ∃ p, nnum most s6 = p := ⟨_, rfl⟩
     obtain ⟨⟨ins, s8⟩, h8⟩ : ∃ p, nnum most s7 = p := ⟨_, rfl⟩
     obtain ⟨⟨l, s9⟩, h9⟩ : ∃ p, ndoc s8 = p := ⟨_, rfl⟩
     simp only [h6, h7, h8, h9] at hX
     have H6 := Lib.hid h6
     have H7 := Lib.hid h7
     have H8 := Lib.hid h8
     have H9 := Lib.hid h9
     have HY := Lib.hid hX.symm
     clear hX h6 h7 h8 h9
     have hN := HG0.out _ HE6.out.gr most s5 (by decide) (by decide) HE6.out.left
     rw [H6.out] at hN
     unfold most at hN
     have HN := Lib.hid hN
     clear hN
     go_upto_region 13 with (go_at_call 133; refine HN.out.mono ?_; rintro e v6 ⟨rfl, hk, hg⟩; have HF6 := Lib.hid (HE6.out.num hPl hk hg); have hcc := HF6.out.ent.cells; have hff := HF6.out.ent.f 5; obtain ⟨q0, q1, q2, q3, q4, q5, q6, q7, q8, q9⟩ := hcc; clear hk hg)
     clear q0 q1 q2 q3 q4 q5 q6 q7 q8 q9 hff HN
     have HE7 : Hid (NeS w (v6.setCell ⟨w.heap.size + 1, 5, none⟩ (.int .i64 gf)) P A c b s6 who seq 1 fm tt gf 0 0 (.slice none 0 0) 0) := Lib.hid (HF6.out.put hPl 5 (.int .i64 gf) rfl)
     obtain ⟨w7_, hw7_⟩ : ∃ q, (v6.setCell ⟨w.heap.size + 1, 5, none⟩ (.int .i64 gf)) = q := ⟨_, rfl⟩
     rw [hw7_] at HE7 ⊢
     clear hw7_ HE6 HF6
     have hN := HG0.out _ HE7.out.gr most s6 (by decide) (by decide) HE7.out.left
     rw [H7.out] at hN
     unfold most at hN
     have HN := Lib.hid hN
     clear hN
     go_upto_region 14 with (go_at_call 133; refine HN.out.mono ?_; rintro e v7 ⟨rfl, hk, hg⟩; have HF7 := Lib.hid (HE7.out.num hPl hk hg); have hcc := HF7.out.ent.cells; have hff := HF7.out.ent.f 6; obtain ⟨q0, q1, q2, q3, q4, q5, q6, q7, q8, q9⟩ := hcc; clear hk hg)
     clear q0 q1 q2 q3 q4 q5 q6 q7 q8 q9 hff HN
     have HE8 : Hid (NeS w (v7.setCell ⟨w.heap.size + 1, 6, none⟩ (.int .i64 gt)) P A c b s7 who seq 1 fm tt gf gt 0 (.slice none 0 0) 0) := Lib.hid (HF7.out.put hPl 6 (.int .i64 gt) rfl)
     obtain ⟨w8_, hw8_⟩ : ∃ q, (v7.setCell ⟨w.heap.size + 1, 6, none⟩ (.int .i64 gt)) = q := ⟨_, rfl⟩
     rw [hw8_] at HE8 ⊢
     clear hw8_ HE7 HF7
     have hN := HG0.out _ HE8.out.gr most s7 (by decide) (by decide) HE8.out.left
     rw [H8.out] at hN
     unfold most at hN
     have HN := Lib.hid hN
     clear hN
     go_upto_region 15 with (go_at_call 133; refine HN.out.mono ?_; rintro e v8 ⟨rfl, hk, hg⟩; have HF8 := Lib.hid (HE8.out.num hPl hk hg); have hcc := HF8.out.ent.cells; have hff := HF8.out.ent.f 7; obtain ⟨q0, q1, q2, q3, q4, q5, q6, q7, q8, q9⟩ := hcc; clear hk hg)
     clear q0 q1 q2 q3 q4 q5 q6 q7 q8 q9 hff HN
     have HE9 : Hid (NeS w (v8.setCell ⟨w.heap.size + 1, 7, none⟩ (.int .i64 ins)) P A c b s8 who seq 1 fm tt gf gt ins (.slice none 0 0) 0) := Lib.hid (HF8.out.put hPl 7 (.int .i64 ins) rfl)
     obtain ⟨w9_, hw9_⟩ : ∃ q, (v8.setCell ⟨w.heap.size + 1, 7, none⟩ (.int .i64 ins)) = q := ⟨_, rfl⟩
     rw [hw9_] at HE9 ⊢
     clear hw9_ HE8 HF8
     have HN := Lib.hid (HD0.out _ HE9.out.gr s8 HE9.out.left)
     go_upto_region 16 with (go_at_call 127; refine HN.out.mono ?_; rintro e v9 ⟨u, rfl, ht, hk, hg⟩; rw [H9.out] at hk ht; obtain ⟨A8, c8, rfl, _, _⟩ := TR.C ht; have HT1 := Lib.hid (Kd.R_lower ht HE9.out.sz); have HF9 := Lib.hid (HE9.out.num hPl hk hg); have hcc := HF9.out.ent.cells; have hff := HF9.out.ent.f 8; obtain ⟨q0, q1, q2, q3, q4, q5, q6, q7, q8, q9⟩ := hcc; clear hk hg ht)
     clear q0 q1 q2 q3 q4 q5 q6 q7 q8 q9 hff HN
     have HE10 : Hid (NeS w (v9.setCell ⟨w.heap.size + 1, 8, none⟩ (.slice A8 l.length c8)) P A c b s9 who seq 1 fm tt gf gt ins (.slice A8 l.length c8) 0) := Lib.hid (HF9.out.put hPl 8 (.slice A8 l.length c8) rfl)
     have HT2 : Hid (TR (v9.setCell ⟨w.heap.size + 1, 8, none⟩ (.slice A8 l.length c8)) (w.heap.size + 2) (.slice A8 l.length c8) l) := Lib.hid (TR.set HT1.out (E := w.heap.size + 1) (by omega) 8 _)
     obtain ⟨w10_, hw10_⟩ : ∃ q, (v9.setCell ⟨w.heap.size + 1, 8, none⟩ (.slice A8 l.length c8)) = q := ⟨_, rfl⟩
     rw [hw10_] at HE10 HT2 ⊢
     clear hw10_ HE9 HF9 HT1
     obtain ⟨q0, q1, q2, q3, q4, q5, q6, q7, q8, q9⟩ := HE10.out.ent.cells
     obtain ⟨s0, s1_, s2_, s3_, s4_, s5_, s6_, s7_, s8_, s9_⟩ := HE10.out.res.cells
     have sf := HE10.out.res.f
     go_wp2
     obtain ⟨z0, z1, z2, z3, z4, z5, z6, z7, z8, z9⟩ := (HE10.out.res.set who seq 1 fm tt gf gt ins (.slice A8 l.length c8) 0).cells
     unfold setEnt at z0 z1 z2 z3 z4 z5 z6 z7 z8 z9
     refine bodyPost_ret (v := .agg #[.int .i64 who, .int .i64 seq, .int .i64 1, .int .i64 fm, .int .i64 tt, .int .i64 gf, .int .i64 gt, .int .i64 ins, (.slice A8 l.length c8), .int .i64 0]) (by simp [results, Try.results129, go_sem, z0, z1, z2, z3, z4, z5, z6, z7, z8, z9]) rfl ?_
     rw [HY.out]
     exact ⟨_, rfl, ⟨_, rfl, Kd.R_lower (HT2.out.setEnt (E := w.heap.size) (by omega) _ _ _ _ _ _ _ _ _ _) (by omega)⟩, HE10.out.left.onB (setEnt_ne _ _ _ _ _ _ _ _ _ _ _ _ _ (by omega)), grown_setEnt HE10.out.gr _ (Nat.le_refl _) who seq 1 fm tt gf gt ins (.slice A8 l.length c8) 0⟩
   · rw [if_neg c0, if_neg c1] at hX
     have t0 : (kk == 0) = false := by simpa using c0
     have t1 : (kk == 1) = false := by simpa using c1
     obtain ⟨⟨m, s6⟩, h6⟩ : ∃ p, nnum most s5 = p := ⟨_, rfl⟩
     rw [h6] at hX
     simp only at hX
     have H6 := Lib.hid h6
     have HY := Lib.hid hX.symm
     clear hX h6 c0 c1
     have hN := HG0.out _ HE6.out.gr most s5 (by decide) (by decide) HE6.out.left
     rw [H6.out] at hN
     unfold most at hN
     have HN := Lib.hid hN
     clear hN
     go_upto_region 16 with (go_at_call 133; refine HN.out.mono ?_; rintro e v6 ⟨rfl, hk, hg⟩; have HF6 := Lib.hid (HE6.out.num hPl hk hg); have hcc := HF6.out.ent.cells; have hff := HF6.out.ent.f 9; obtain ⟨q0, q1, q2, q3, q4, q5, q6, q7, q8, q9⟩ := hcc; clear hk hg)
     clear q0 q1 q2 q3 q4 q5 q6 q7 q8 q9 hff HN
     have HE7 : Hid (NeS w (v6.setCell ⟨w.heap.size + 1, 9, none⟩ (.int .i64 m)) P A c b s6 who seq kk fm tt 0 0 0 (.slice none 0 0) m) := Lib.hid (HF6.out.put hPl 9 (.int .i64 m) rfl)
     obtain ⟨w7_, hw7_⟩ : ∃ q, (v6.setCell ⟨w.heap.size + 1, 9, none⟩ (.int .i64 m)) = q := ⟨_, rfl⟩
     rw [hw7_] at HE7 ⊢
     clear hw7_ HE6 HF6
     obtain ⟨q0, q1, q2, q3, q4, q5, q6, q7, q8, q9⟩ := HE7.out.ent.cells
     obtain ⟨s0, s1_, s2_, s3_, s4_, s5_, s6_, s7_, s8_, s9_⟩ := HE7.out.res.cells
     have sf := HE7.out.res.f
     go_wp2
     obtain ⟨z0, z1, z2, z3, z4, z5, z6, z7, z8, z9⟩ := (HE7.out.res.set who seq kk fm tt 0 0 0 (.slice none 0 0) m).cells
     unfold setEnt at z0 z1 z2 z3 z4 z5 z6 z7 z8 z9
     refine bodyPost_ret (v := .agg #[.int .i64 who, .int .i64 seq, .int .i64 kk, .int .i64 fm, .int .i64 tt, .int .i64 0, .int .i64 0, .int .i64 0, (.slice none 0 0), .int .i64 m]) (by simp [results, Try.results129, go_sem, z0, z1, z2, z3, z4, z5, z6, z7, z8, z9]) rfl ?_
     rw [HY.out]
     exact ⟨_, rfl, ⟨_, rfl, Kd.R_nil _ _ _ _ _⟩, HE7.out.left.onB (setEnt_ne _ _ _ _ _ _ _ _ _ _ _ _ _ (by omega)), grown_setEnt HE7.out.gr _ (Nat.le_refl _) who seq kk fm tt 0 0 0 (.slice none 0 0) m⟩
end Go.Proofs.Ytmbnjgnmblgjoaa.Man
end
section
namespace Go.Proofs.Ytmbnjgnmblgjoaa.Man
open Go.RowKit Go.Proofs.YtmbnjgnmblgjoaaW.PrintWords Go.Proofs.YtmbnjgnmblgjoaaW.PrintLast Go.Proofs.YtmbnjgnmblgjoaaW.PrintMore
set_option linter.unusedVariables false
set_option linter.unusedSimpArgs false
def Sim {α : Type} (r : Rd α) (p : α × Left) : Prop := match r with | .ok (x, l) => p = (x, (l, 0)) | .error f => p.2.2 = f ∧ f ≠ 0
theorem Sim.ok {α : Type} (x : α) (l : List Int) : Sim (.ok (x, l)) (x, (l, 0)) := rfl
theorem Sim.bnd {α β : Type} {r : Rd α} {f : α → List Int → Rd β} {p : α × Left} {g : α → Left → β × Left} (h1 : Sim r p) (h2 : ∀ x l, r = .ok (x, l) → Sim (f x l) (g x (l, 0))) (h3 : ∀ x s, s.2 ≠ 0 → (g x s).2.2 = s.2) : Sim (bnd r f) (g p.1 p.2) := by
 match r, h1, h2 with
 | .error e, h1, _ => obtain ⟨h, hne⟩ := h1; exact ⟨by rw [h3 _ _ (by rw [h]; exact hne), h], hne⟩
 | .ok (x, l), h1, h2 => obtain rfl : p = (x, (l, 0)) := h1; exact h2 x l rfl
theorem sim_num (top : Int) (l : List Int) : Sim (rnum top l) (nnum top (l, 0)) := by
 have hne := ErrNz.num top l
 have e : nnum top (l, 0) = match rnum top l with | .ok (n, r) => (n, (r, 0)) | .error f => (0, (l, f)) := by unfold nnum; exact if_neg (show ¬ ((0 : Int) ≠ 0) by decide)
 rw [e]
 revert hne
 rcases rnum top l with f | ⟨n, r⟩ <;> intro hne
 · exact ⟨rfl, hne f rfl⟩
 · rfl
theorem num_stuck (top : Int) (s : Left) (h : s.2 ≠ 0) : nnum top s = (0, s) := by unfold nnum; rw [if_pos h]
theorem rnum_top {top : Int} {l r : List Int} {n : Int} (ht : 0 ≤ top) (h : rnum top l = .ok (n, r)) : 0 ≤ n ∧ n ≤ top := by
 have h1 := nnum_range top (l, 0) ht
 have h2 := sim_num top l
 rw [h] at h2
 rw [show nnum top (l, 0) = (n, (r, 0)) from h2] at h1
 exact h1
theorem sim_tok (l : List Int) : Sim (rtok l) (ntok (l, 0)) := by
 unfold rtok
 refine Sim.bnd (g := fun (k : Int) (s : Left) => if k % 4 = 0 then (K.S111.mk 0 0 (k / 4) (nnum most s).1, (nnum most s).2) else if k % 4 = 1 ∨ k % 4 = 3 then (K.S111.mk (k % 4) (nnum most s).1 (k / 4) 0, (nnum most s).2) else (K.S111.mk 2 0 (k / 4) 0, s)) (sim_num most l) (fun k l _ => ?_) (fun k s h => ?_)
 · show Sim _ (if k % 4 = 0 then _ else _)
   split
   · exact Sim.bnd (g := fun (m : Int) (s : Left) => (K.S111.mk 0 0 (k / 4) m, s)) (sim_num most l) (fun _ _ _ => rfl) (fun _ _ _ => rfl)
   · split
     · exact Sim.bnd (g := fun (m : Int) (s : Left) => (K.S111.mk (k % 4) m (k / 4) 0, s)) (sim_num most l) (fun _ _ _ => rfl) (fun _ _ _ => rfl)
     · rfl
 · simp only [num_stuck most s h]
   split
   · rfl
   · split <;> rfl
theorem sim_toks : ∀ (n : Nat) (l : List Int), Sim (rtoks n l) (ntoks n (l, 0))
 | 0, l => rfl
 | n + 1, l => by
  rw [rtoks, ntoks, if_pos rfl]
  refine Sim.bnd (g := fun (x : K.S111) (s : Left) => (x :: (ntoks n s).1, (ntoks n s).2)) (sim_tok l) (fun x l _ => ?_) (fun x s h => by simp only [ntoks_stop n s h])
  exact Sim.bnd (g := fun (xs : List K.S111) (s : Left) => (x :: xs, s)) (sim_toks n l) (fun _ _ _ => rfl) (fun _ _ _ => rfl)
theorem sim_doc (l : List Int) : Sim (rdoc l) (ndoc (l, 0)) := by
 unfold rdoc
 exact Sim.bnd (g := fun (n : Int) (s : Left) => ntoks n.toNat s) (sim_num 2048 l) (fun n l _ => sim_toks n.toNat l) (fun n s h => by simp only [ntoks_stop _ s h])
theorem doc_stuck (s : Left) (h : s.2 ≠ 0) : ndoc s = ([], s) := by unfold ndoc; rw [num_stuck 2048 s h]; rfl
theorem entK_stuck (who seq k fm tt : Int) (s : Left) (h : s.2 ≠ 0) : (nentK who seq k fm tt s).2 = s := by
 unfold nentK
 split
 · rw [doc_stuck s h]
 · split
   · simp only [num_stuck most s h, doc_stuck s h]
   · rw [num_stuck most s h]
theorem sim_ent (l : List Int) : Sim (rent l) (nent (l, 0)) := by
 unfold rent
 refine Sim.bnd (g := fun (who : Int) (s : Left) => match nnum most s with | (seq, s) => match nnum 3 s with | (k, s) => match nnum most s with | (fm, s) => match nnum most s with | (tt, s) => nentK who seq k fm tt s) (sim_num most l) (fun who l _ => ?_) (fun _ s h => by simp only [num_stuck most s h, num_stuck 3 s h, entK_stuck _ _ _ _ _ s h])
 refine Sim.bnd (g := fun (seq : Int) (s : Left) => match nnum 3 s with | (k, s) => match nnum most s with | (fm, s) => match nnum most s with | (tt, s) => nentK who seq k fm tt s) (sim_num most l) (fun seq l _ => ?_) (fun _ s h => by simp only [num_stuck most s h, num_stuck 3 s h, entK_stuck _ _ _ _ _ s h])
 refine Sim.bnd (g := fun (k : Int) (s : Left) => match nnum most s with | (fm, s) => match nnum most s with | (tt, s) => nentK who seq k fm tt s) (sim_num 3 l) (fun k l hk => ?_) (fun _ s h => by simp only [num_stuck most s h, num_stuck 3 s h, entK_stuck _ _ _ _ _ s h])
 have hkr := rnum_top (by decide) hk
 refine Sim.bnd (g := fun (fm : Int) (s : Left) => match nnum most s with | (tt, s) => nentK who seq k fm tt s) (sim_num most l) (fun fm l _ => ?_) (fun _ s h => by simp only [num_stuck most s h, num_stuck 3 s h, entK_stuck _ _ _ _ _ s h])
 refine Sim.bnd (g := fun (tt : Int) (s : Left) => nentK who seq k fm tt s) (sim_num most l) (fun tt l _ => ?_) (fun _ s h => by simp only [entK_stuck _ _ _ _ _ s h])
 unfold nentK
 by_cases k0 : k = 0
 · rw [if_neg (by omega), if_neg (by omega), if_pos k0]
   exact Sim.bnd (g := fun (d : List K.S111) (s : Left) => (K.S26.mk who seq (K.S24.mk k fm tt 0 0 0 d 0), s)) (sim_doc l) (fun _ _ _ => rfl) (fun _ _ _ => rfl)
 · rw [if_neg k0]
   by_cases k1 : k = 1
   · rw [if_neg (by omega), if_pos k1, if_pos k1]
     refine Sim.bnd (g := fun (gf : Int) (s : Left) => match nnum most s with | (gt, s) => match nnum most s with | (ins, s) => match ndoc s with | (d, s) => (K.S26.mk who seq (K.S24.mk k fm tt gf gt ins d 0), s)) (sim_num most l) (fun gf l _ => ?_) (fun _ s h => by simp only [num_stuck most s h, doc_stuck s h])
     refine Sim.bnd (g := fun (gt : Int) (s : Left) => match nnum most s with | (ins, s) => match ndoc s with | (d, s) => (K.S26.mk who seq (K.S24.mk k fm tt gf gt ins d 0), s)) (sim_num most l) (fun gt l _ => ?_) (fun _ s h => by simp only [num_stuck most s h, doc_stuck s h])
     refine Sim.bnd (g := fun (ins : Int) (s : Left) => match ndoc s with | (d, s) => (K.S26.mk who seq (K.S24.mk k fm tt gf gt ins d 0), s)) (sim_num most l) (fun ins l _ => ?_) (fun _ s h => by simp only [num_stuck most s h, doc_stuck s h])
     exact Sim.bnd (g := fun (d : List K.S111) (s : Left) => (K.S26.mk who seq (K.S24.mk k fm tt gf gt ins d 0), s)) (sim_doc l) (fun _ _ _ => rfl) (fun _ _ _ => rfl)
   · rw [if_pos (by omega), if_neg k1]
     exact Sim.bnd (g := fun (m : Int) (s : Left) => (K.S26.mk who seq (K.S24.mk k fm tt 0 0 0 [] m), s)) (sim_num most l) (fun _ _ _ => rfl) (fun _ _ _ => rfl)
def nend (s : Left) (fine : Bool) : Int := if s.2 = 0 ∧ (0 < s.1.length ∨ fine = false) then 4 else s.2
theorem end_all {α : Type} (z : α) (ok : α → Int) {r : Rd α} {p : α × Left} (h : Sim r p) : nend p.2 (ok p.1 == 0) = (allF z ok r).2 ∧ (allF z ok r).1 = if nend p.2 (ok p.1 == 0) = 0 then p.1 else z := by
 match r, h with
 | .error f, h =>
  obtain ⟨h1, h2⟩ := h
  have e : nend p.2 (ok p.1 == 0) = f := by unfold nend; rw [if_neg (by rw [h1]; exact fun h => h2 h.1), h1]
  rw [e, if_neg h2]
  exact ⟨rfl, rfl⟩
 | .ok (x, l), h =>
  obtain rfl : p = (x, (l, 0)) := h
  have e : nend (l, 0) (ok x == 0) = if 0 < l.length ∨ ok x ≠ 0 then 4 else 0 := by
   unfold nend
   simp only [true_and, beq_eq_false_iff_ne]
  simp only
  rw [e]
  unfold allF
  simp only
  split
  · exact ⟨rfl, by rw [if_neg (by decide)]⟩
  · exact ⟨rfl, by rw [if_pos rfl]⟩
end Go.Proofs.Ytmbnjgnmblgjoaa.Man
end
section
namespace Go.Proofs.Ytmbnjgnmblgjoaa.Man
open Go.RowKit Go.Proofs.YtmbnjgnmblgjoaaW.PrintWords Go.Proofs.YtmbnjgnmblgjoaaW.PrintLast Go.Proofs.YtmbnjgnmblgjoaaW.PrintMore
set_option linter.unusedVariables false
set_option linter.unusedSimpArgs false
set_option maxRecDepth 100000
theorem nend_is {w0 w : World} {P c : Nat} {A : Option Addr} {b : List Int} {s : Left} (hC : Kd.C (Kd.int .u8) w0 A b.length b) (hb : Below w0.heap.size w0 w) (hP : w0.heap.size ≤ P) (k : LeftAt w P A c b s) (fine : Bool) :
 Calls Try.prog 128 #[.pointer (some ⟨P, 0, none⟩), .bool fine] w fun e w' => e = .returned (.int .i64 (nend s fine)) ∧ w.grownBy w' (some P) := by
 obtain ⟨q, hq, hs, hk⟩ := k
 have hI : K.IsS180 w0 w P b q s.2 := ⟨A, c, hk, hP, hC⟩
 have hl : s.1.length = b.length - q := by rw [hs, List.length_drop]
 have hf : ∃ r2 r3, K.emenderref16_reader_end.f b q s.2 fine = some (nend s fine, r2, r3) := by
  unfold K.emenderref16_reader_end.f nend
  by_cases h0 : s.2 = 0
  · rw [if_pos h0]
    by_cases h1 : (q : Int) < (b.length : Int)
    · rw [if_pos h1, if_pos ⟨h0, .inl (by omega)⟩]
      exact ⟨_, _, rfl⟩
    · rw [if_neg h1]
      cases fine
      · rw [if_neg (by decide), if_pos ⟨h0, .inr rfl⟩]
        exact ⟨_, _, rfl⟩
      · rw [if_pos rfl, if_neg (fun h => h.2.elim (fun h => by omega) (fun h => by cases h))]
        exact ⟨_, _, rfl⟩
  · rw [if_neg h0, if_neg (fun h => h0 h.1)]
    exact ⟨_, _, rfl⟩
 obtain ⟨r2, r3, hf⟩ := hf
 refine (K.emenderref16_reader_end.calls P b q s.2 fine _ r2 r3 w0 w hI hb hf).mono ?_
 rintro e w' ⟨he, _, hb', hkb⟩
 exact ⟨he, hb'.os.trans hb.os.symm, hb'.tape.trans hb.tape.symm, hb'.output.trans hb.output.symm, hkb.1, fun j hj hr => hkb.2 j hj (fun e => hr (by rw [e])) (by simp)⟩
end Go.Proofs.Ytmbnjgnmblgjoaa.Man
end
section
namespace Go.Proofs.Ytmbnjgnmblgjoaa.Man
open Go.RowKit Go.Proofs.YtmbnjgnmblgjoaaW.PrintWords Go.Proofs.YtmbnjgnmblgjoaaW.PrintLast Go.Proofs.YtmbnjgnmblgjoaaW.PrintMore
set_option linter.unusedVariables false
set_option linter.unusedSimpArgs false
set_option maxRecDepth 100000
set_option maxHeartbeats 16000000 in
theorem rgetEntry_is (w : World) (A : Option Addr) (c : Nat) (b : List Int) (hC : Kd.C (Kd.int .u8) w A b.length b) (hc : b.length ≤ c) (hB : areBytesN b = true) (hl : b.length ≤ 140737488351232) :
 Calls Try.prog 65 #[.slice A b.length c] w fun e w' => ∃ r, e = .returned (.tuple #[r, .int .i64 (getEntryF b).2]) ∧ EntR w.heap.size (getEntryF b).1 r w' ∧ Below w.heap.size w w' := by
 obtain ⟨w1, hw1⟩ : ∃ w1, w1 = (w.alloc (.cells #[.int .i64 0, .int .i64 0, .int .i64 0, .int .i64 0, .int .i64 0, .int .i64 0, .int .i64 0, .int .i64 0, .slice none 0 0, .int .i64 0] 26)).alloc (.cells #[.slice A b.length c, .int .i64 0, .int .i64 0] 180) := ⟨_, rfl⟩
 have hb1 : Below w.heap.size w w1 := by rw [hw1]; exact ((Below.refl _ _).alloc (Nat.le_refl _) _).alloc (by simp) _
 have hz1 : w1.heap.size = w.heap.size + 2 := by rw [hw1, World.size_alloc, World.size_alloc]
 have hS1 : EntC w1 w.heap.size 0 0 0 0 0 0 0 0 (.slice none 0 0) 0 := by rw [hw1]; exact (Below.heap_alloc _ _ _ (by simp)).trans (World.alloc_heap_new w _)
 have hk1 : LeftAt w1 (w.heap.size + 1) A c b (b, 0) := ⟨0, Nat.zero_le _, rfl, by rw [hw1]; have := World.alloc_heap_new (w.alloc (.cells #[.int .i64 0, .int .i64 0, .int .i64 0, .int .i64 0, .int .i64 0, .int .i64 0, .int .i64 0, .int .i64 0, .slice none 0 0, .int .i64 0] 26)) (.cells #[.slice A b.length c, .int .i64 0, .int .i64 0] 180); rwa [World.size_alloc] at this⟩
 have hD := nent_is hC hc hB hl hb1 (Nat.le_succ _) hk1
 obtain ⟨he, hv⟩ := end_all K.z26 entryE (sim_ent b)
 rw [show allF K.z26 entryE (rent b) = getEntryF b from rfl] at he hv
 rw [← he, hv]
 obtain ⟨⟨x, st⟩, hst⟩ : ∃ p, nent (b, 0) = p := ⟨_, rfl⟩
 rw [hst] at hD ⊢
 simp only at hD ⊢
 have HD := Lib.hid hD
 have HC := Lib.hid hC
 have HB1 := Lib.hid hb1
 have HW1 := Lib.hid hw1
 have HZ1 := Lib.hid hz1
 have HS1 := Lib.hid hS1
 obtain ⟨E, hE⟩ : ∃ E, entryE x = E := ⟨_, rfl⟩
 rw [hE]
 have HE := Lib.hid hE
 obtain ⟨F, hF⟩ : ∃ F, nend st (E == 0) = F := ⟨_, rfl⟩
 rw [hF]
 have HF := Lib.hid hF
 clear hC hb1 hk1 hD he hv hst hw1 hz1 hE hF hS1
 go_enter Try.func65, Try.ntmps65
 go_upto_region 3 with (go_at_call 129; rw [← HW1.out]; refine HD.out.mono ?_; rintro e w2 ⟨r, rfl, ⟨u, rfl, ht⟩, hk, hg⟩; obtain ⟨A8, c8, rfl, l8, hC8⟩ := TR.C ht; have HT2 := Lib.hid (Kd.R_lower ht (Nat.le_of_eq HZ1.out.symm)); have HC8 := Lib.hid hC8; have HK2 := Lib.hid hk; have HG2 := Lib.hid hg; have HG2S : Hid (w1.heap.size ≤ w2.heap.size) := Lib.hid hg.size; clear hk hg ht hC8)
 obtain ⟨w3, hw3⟩ : ∃ w3, w2.alloc (entO x A8 c8) = w3 := ⟨_, rfl⟩
 have hb3 : Below w2.heap.size w2 w3 := by rw [← hw3]; exact (Below.refl _ _).alloc (Nat.le_refl _) _
 have hE3 : EntAt w3 w2.heap.size x A8 c8 := by rw [← hw3]; exact World.alloc_heap_new w2 _
 rw [hw3]
 have hg3 := HG2.out.trans (grown_of_below hb3 _)
 have HG3 := Lib.hid hg3
 have HK3 := Lib.hid (HK2.out.below hb3 HK2.out.lt)
 have HT3 := Lib.hid (Kd.R_below HT2.out hb3)
 have HE3 := Lib.hid hE3
 have HCK := Lib.hid (rcheck_is x A8 c8 w3 (Kd.C_below HC8.out hb3) l8)
 have HBW3 := Lib.hid (below_of_grown HB1.out hg3 (Nat.le_succ _))
 obtain ⟨q0, q1, q2, q3, q4, q5, q6, q7, q8, q9⟩ := hE3.c
 clear hw3 hb3 hE3 hg3 HW1 HD HK2 HT2 HG2
 go_upto_region 4 with (first
  | (go_at_call 107; refine HCK.out.mono ?_; rintro e w4 ⟨rfl, hb⟩; rw [HE.out]; have HT4 := Lib.hid (Kd.R_below HT3.out hb); have HK4 := Lib.hid (HK3.out.below hb HK3.out.lt); have HE4 : Hid (EntAt w4 w2.heap.size x A8 c8) := Lib.hid ((hb.block _ HE3.out.lt).trans HE3.out); have HG4 := Lib.hid (HG3.out.trans (grown_of_below hb _)); have HBW4 := Lib.hid (HBW3.out.trans (hb.mono HBW3.out.size)); clear hb)
  | (go_at_call 128; refine (nend_is HC.out HBW4.out (Nat.le_succ _) HK4.out (E == 0)).mono ?_; rintro e w5 ⟨rfl, hg⟩; rw [HF.out]; have HT5 := Lib.hid (TR.grown HT4.out hg (by omega)); have HE5 : Hid (EntAt w5 w2.heap.size x A8 c8) := Lib.hid ((hg.block _ HE4.out.lt (by intro e; have := Option.some.inj e; have := HZ1.out; have := HG2S.out; omega)).trans HE4.out); have HG5 := Lib.hid (HG4.out.trans hg); have HB5 := Lib.hid (below_of_grown HBW4.out hg (Nat.le_succ _)); clear hg))
 clear q0 q1 q2 q3 q4 q5 q6 q7 q8 q9
 have HS5 : Hid (EntC w5 w.heap.size 0 0 0 0 0 0 0 0 (.slice none 0 0) 0) := Lib.hid (HS1.out.ne (HG5.out.block _ HS1.out.lt (by intro e; have := Option.some.inj e; omega)))
 obtain ⟨q0, q1, q2, q3, q4, q5, q6, q7, q8, q9⟩ := HE5.out.c
 obtain ⟨s0, s1, s2, s3, s4, s5, s6, s7, s8, s9⟩ := HS5.out.cells
 have sf := HS5.out.f
 by_cases h0 : F = 0
 · have t0 : (F != 0) = false := by simpa using h0
   go_wp2
   obtain ⟨z0, z1, z2, z3, z4, z5, z6, z7, z8, z9⟩ := (HS5.out.set x.f0 x.f1 x.f2.f0 x.f2.f1 x.f2.f2 x.f2.f3 x.f2.f4 x.f2.f5 (.slice A8 x.f2.f6.length c8) x.f2.f7).cells
   unfold setEnt at z0 z1 z2 z3 z4 z5 z6 z7 z8 z9
   refine bodyPost_ret (v := .tuple #[.agg #[.int .i64 x.f0, .int .i64 x.f1, .int .i64 x.f2.f0, .int .i64 x.f2.f1, .int .i64 x.f2.f2, .int .i64 x.f2.f3, .int .i64 x.f2.f4, .int .i64 x.f2.f5, .slice A8 x.f2.f6.length c8, .int .i64 x.f2.f7], .int .i64 0]) (by simp [results, Try.results65, go_sem, z0, z1, z2, z3, z4, z5, z6, z7, z8, z9]) rfl ?_
   subst h0
   exact ⟨_, rfl, ⟨_, rfl, Kd.R_lower (HT5.out.setEnt (E := w.heap.size) (by omega) _ _ _ _ _ _ _ _ _ _) (by omega)⟩, below_setEnt HB5.out w.heap.size (Nat.le_refl _) x.f0 x.f1 x.f2.f0 x.f2.f1 x.f2.f2 x.f2.f3 x.f2.f4 x.f2.f5 (.slice A8 x.f2.f6.length c8) x.f2.f7⟩
 · have t0 : (F != 0) = true := by simpa using h0
   go_wp2
   obtain ⟨z0, z1, z2, z3, z4, z5, z6, z7, z8, z9⟩ := (HS5.out.set 0 0 0 0 0 0 0 0 (.slice none 0 0) 0).cells
   unfold setEnt at z0 z1 z2 z3 z4 z5 z6 z7 z8 z9
   refine bodyPost_ret (v := .tuple #[.agg #[.int .i64 0, .int .i64 0, .int .i64 0, .int .i64 0, .int .i64 0, .int .i64 0, .int .i64 0, .int .i64 0, .slice none 0 0, .int .i64 0], .int .i64 F]) (by simp [results, Try.results65, go_sem, z0, z1, z2, z3, z4, z5, z6, z7, z8, z9]) rfl ?_
   exact ⟨_, rfl, ⟨_, rfl, Kd.R_nil _ _ _ _ _⟩, below_setEnt HB5.out w.heap.size (Nat.le_refl _) 0 0 0 0 0 0 0 0 (.slice none 0 0) 0⟩
end Go.Proofs.Ytmbnjgnmblgjoaa.Man
end
section
namespace Go.Proofs.Ytmbnjgnmblgjoaa.Man
open Go.RowKit Go.Shelf Go.Proofs.YtmbnjgnmblgjoaaW.PrintWords Go.Proofs.YtmbnjgnmblgjoaaW.PrintLast Go.Proofs.YtmbnjgnmblgjoaaW.PrintMore
set_option linter.unusedVariables false
set_option linter.unusedSimpArgs false
set_option maxRecDepth 100000
def jaR12.T : Bool × List (List Nat × List Nat) := (true, [([], []), ([], []), ([1], [1]), ([], []), ([3], [3]), ([0, 2, 4], [0, 2, 4]), ([], []), ([6], [6]), ([7], [7]), ([8], [8]), ([9], [9]), ([], []), ([11], [11]), ([10, 12], [10, 12]), ([13], [13]), ([5, 14, 10], [5, 14]), ([15, 15, 0, 1, 2, 3, 4, 5, 6, 7, 8, 9, 10, 11, 12, 13, 14, 15], [0, 1, 3, 15])])
def jaR12.B : List Nat := [0, 0, 2, 0, 8, 31, 0, 64, 192, 448, 960, 0, 2048, 8128, 16320, 32767, 65535]
theorem jaR12.tab : rtab .any (opsOf Try.f76 12) = jaR12.T := by kernel_rfl
theorem jaR12.bits : waitsOk jaR12.T.2 jaR12.B = true := by kernel_rfl
def jErr : List K.S26 → Int
 | [] => 0
 | x :: xs => if frameErr x = 0 then jErr xs else frameErr x
theorem jErr_fine : ∀ {l : List K.S26}, jErr l = 0 → ∀ x ∈ l, Fine x
 | [], _, x, hx => by cases hx
 | y :: ys, h, x, hx => by
  unfold jErr at h
  by_cases h0 : frameErr y = 0
  · rw [if_pos h0] at h
    rcases List.mem_cons.1 hx with rfl | hx
    · exact frameErr_fine.1 h0
    · exact jErr_fine h x hx
  · rw [if_neg h0] at h; exact absurd h h0
def jappE (m : Int) (b : List Int) (l : List K.S26) : Int := if jErr l = 0 then appE m b (flatE l) else jErr l
def jappL (m : Int) (b : List Int) (l : List K.S26) : List Int := if jErr l = 0 then appL m b (flatE l) else b
def jappEs (m : Int) (b es : List Int) (l : List K.S26) : List Int := if jappE m b l = 0 then es ++ endsE b.length l else es
theorem flat_len_fine : ∀ {l : List K.S26}, (∀ x ∈ l, Fine x) → (flatE l).length ≤ l.length * 65543
 | [], _ => by simp [flatE]
 | y :: ys, h => by
  rw [flatE_cons, List.length_append, List.length_cons]
  have h1 := entF_le (h y List.mem_cons_self)
  have h2 := flat_len_fine (l := ys) (fun x hx => h x (List.mem_cons_of_mem _ hx))
  omega
theorem BR.append_ev2 {ops : Array Oper} {rest : List Oper} {o : Oper} {a : Act} {Q : Exit → Act → World → Prop} {w : World} {base : Nat} {v : Value} {xs ys : List Int} {A : Option Addr} {m c : Nat}
 (h : BR w base v xs) (HR : Kd.C (Kd.int .u8) w A m ys) (hgd : o.guard = none) (s x : Operand) (ho : o.op = .call { callee := .builtin .append, args := #[s, x], argTypes := #[27, 27] })
 (hs : a.eval s = v) (hx : a.eval x = .slice A m c) (hbase : base ≤ w.heap.size) (hl : xs.length + m ≤ 140737488355328)
 (k : ∀ v1 w1, BR w1 base v1 (xs ++ ys) → Below base w w1 → w.grownBy w1 v.ownBlock → wpList Try.prog ops Q rest (a.put o.dst v1) w1) : wpList Try.prog ops Q (o :: rest) a w :=
 Kd.R_append_rows (Kd.int .u8) (Rr := (Kd.int .u8).K w) (w0 := w) base hgd s x 27 5 (.int .u8 0) 1 ho Try.underlying27 info_u8 rfl (by decide) (by omega) v xs ys A m c (fun _ => True) (fun _ => False) hs hx h HR (fun _ _ h => h) (fun _ h => h.elim) (fun _ _ => trivial) (Below.refl _ _) hbase (by omega)
  (fun v1 w1 h1 h2 h3 h4 => k v1 w1 h1 h2 h3)
theorem disk_store {w : World} {base B J j : Nat} {v u : Value} {xs : List Int} {s m : Int} (h : DiskS w base B v xs s m) (h1 : J ≠ B) (h2 : some J ≠ v.ownBlock) : DiskS (w.setCell ⟨J, j, none⟩ u) base B v xs s m :=
 { h with
  cells := h.cells.move (Below.heap_setCell _ _ _ _ (by show B ≠ J; omega))
  row := h.row.move fun k hk => Below.heap_setCell _ _ _ _ (fun e => h2 (by rw [hk, e])) }
theorem DStep.R {α : Type} {d : Kd α} {e base B : Nat} {w w1 : World} {v v' u : Value} {xs : List α} (st : DStep w w1 B v v') (h : d.R e w base (fun _ => True) u xs) (hB : B < base) (hv : ∀ k, v.ownBlock = some k → k < base) : d.R e w1 base (fun _ => True) u xs :=
 Kd.R_mono (Kd.R_move (Kd.R_bound h) (fun k hk => st.block k hk.2.2.1 (by have := hk.2.1; omega) (fun e => by have := hv k e.symm; have := hk.2.1; omega))) (fun _ _ => trivial)
theorem JS.storeE {w : World} {base J D n0 : Nat} {vE v vS : Value} {es zs b : List Int} {s m : Int} (h : JS w base J D vE v es b s m) (hI : IR w n0 vS zs) (hn : J < n0) (hb : base ≤ n0) : JS (w.setCell ⟨J, 1, none⟩ vS) base J D vS v zs b s m := by
 have hI2 : IR (w.setCell ⟨J, 1, none⟩ vS) n0 vS zs := Kd.R_mono (Kd.R_grown (Kd.R_bound hI) (grownBy_set w J 1 vS (World.grownBy.refl w _)) (fun k hk e => by cases e; have := hk.2.1; omega)) (fun _ _ => trivial)
 exact ⟨h.jat.put1 vS, IR.len hI2, fun k hk => ⟨by have := R_ge hI2 k hk; omega, R_typ hI2 k hk⟩, disk_store h.disk h.neD h.neV, h.jge⟩
theorem JS.storeSame {w : World} {base J D : Nat} {vE v : Value} {es b : List Int} {s m : Int} (h : JS w base J D vE v es b s m) : JS (w.setCell ⟨J, 1, none⟩ vE) base J D vE v es b s m := by
 have hne : ∀ k, vE.ownBlock = some k → k ≠ J := fun k hk e => by
  obtain ⟨_, cs, hc⟩ := h.typ k hk
  subst e
  rw [show w.heap[k]? = _ from h.jat] at hc
  cases hc
 obtain ⟨A, c, rfl, hc, hC⟩ := h.row
 exact ⟨h.jat.put1 _, ⟨A, c, rfl, hc, C_typ hC (fun k hk => Below.heap_setCell _ _ _ _ (hne k hk))⟩, fun k hk => ⟨(h.typ k hk).1, by rw [Below.heap_setCell _ _ _ _ (show k ≠ J from hne k hk)]; exact (h.typ k hk).2⟩, disk_store h.disk h.neD h.neV, h.jge⟩
theorem JStep.put {w w1 : World} {J D : Nat} {v v' vE vE' : Value} (h : JStep w w1 J D v v' vE vE') (u uE : Value) (hE : uE.ownBlock = vE.ownBlock ∨ uE.ownBlock = none ∨ ∃ b, uE.ownBlock = some b ∧ w.heap.size ≤ b) : JStep w (w1.setCell ⟨J, 1, none⟩ u) J D v v' vE uE :=
 ⟨h.os, h.tape, h.output, by simpa [World.setCell] using h.size, fun k hk h1 h2 h3 => (Below.heap_setCell _ _ _ _ (by show k ≠ J; exact h1)).trans (h.block k hk h1 h2 h3), h.row, hE⟩
def EndsAt (w : World) (n0 i : Nat) (vE vS : Value) (zs : List Int) : Prop := (i = 0 ∧ vS = vE) ∨ IR w n0 vS zs
set_option maxHeartbeats 16000000 in
theorem jappend_is {w : World} {base J D : Nat} {vE v : Value} {es b : List Int} {s m : Int} (h : JS w base J D vE v es b s m) (A0 : Option Addr) (c0 : Nat) (l : List K.S26) (hC : Kd.C K.k26 w A0 l.length l) (hc : l.length ≤ c0) (hl : l.length ≤ 1048576) (hes : es.length ≤ 1048576) :
 Calls Try.prog 76 #[.pointer (some ⟨J, 0, none⟩), .slice A0 l.length c0] w fun e w' => e = .returned (.int .i64 (jappE m b l)) ∧ ∃ vE' v', JS w' base J D vE' v' (jappEs m b es l) (jappL m b l) s m ∧ JStep w w' J D v v' vE vE' := by
 obtain ⟨E, hE⟩ : ∃ E, jErr l = E := ⟨_, rfl⟩
 obtain ⟨R, hR⟩ : ∃ R, jappE m b l = R := ⟨_, rfl⟩
 obtain ⟨RE, hRE⟩ : ∃ RE, jappEs m b es l = RE := ⟨_, rfl⟩
 obtain ⟨RL, hRL⟩ : ∃ RL, jappL m b l = RL := ⟨_, rfl⟩
 rw [hR, hRE, hRL]
 have HE := Lib.hid hE
 have HR := Lib.hid hR
 have HRE := Lib.hid hRE
 have HRL := Lib.hid hRL
 have H := Lib.hid h
 have HC := Lib.hid hC
 have hJw := h.lt
 have hjb := h.jge
 have hbl : b.length ≤ 262144 := by have := h.disk.len; have := h.disk.m1; omega
 have c1 := h.jat.c1
 obtain ⟨AE, cE, rfl, _, _⟩ := h.row
 clear hE hR hRE hRL h hC
 go_enter Try.func76, Try.ntmps76
 go_wp2_with (go_at_call 137; refine (jnone_is H.out).mono ?_; rintro e w' ⟨rfl, rfl⟩)
 go_loopg [5, 6, 20] l.length (fun g s5 s6 s20 wr => ∃ (i : Nat) (vA vS : Value), vA = s5 ∧ vS = s6 ∧ s20 = .int .i64 i ∧ i ≤ l.length ∧ g = l.length - i ∧ Hid (jErr (l.drop i) = E) ∧ Hid (∀ x ∈ l.take i, Fine x) ∧ Hid (BR wr w.heap.size vA (flatE (l.take i))) ∧ Hid (EndsAt wr w.heap.size i (.slice AE es.length cE) vS (es ++ endsE b.length (l.take i))) ∧ Hid (Below w.heap.size w wr))
 case atStart => exact ⟨0, _, _, rfl, rfl, rfl, Nat.zero_le _, rfl, Lib.hid (by rw [List.drop_zero]; exact HE.out), Lib.hid (by intro x hx; simp at hx), Lib.hid (Kd.R_nil _ _ _ _ _), Lib.hid (.inl ⟨rfl, rfl⟩), Lib.hid (Below.refl _ _)⟩
 case round =>
  obtain ⟨i, vA, vS, rfl, rfl, rfl, hi, hg, HEI, HF, HA, HS, HB⟩ := hrel
  obtain ⟨A5, c5, rfl, _, _⟩ := BR.len HA.out
  have hJS := H.out.below HB.out (Nat.le_refl _)
  have HJR := Lib.hid hJS
  obtain ⟨zs, hzs⟩ : ∃ zs, es ++ endsE b.length (l.take i) = zs := ⟨_, rfl⟩
  have hzl : zs.length ≤ 2097152 := by rw [← hzs, List.length_append, endsE_length, List.length_take]; omega
  rw [hzs] at HS
  have hrow : ∃ A6 c6, vS = .slice A6 zs.length c6 ∧ zs.length ≤ c6 ∧ Kd.C (Kd.int .i64) wr A6 zs.length zs := by
   rcases HS.out with ⟨h0, h1⟩ | h1
   · obtain ⟨A, c, e, h3, h4⟩ := hJS.row
     have hz : zs = es := by rw [← hzs, h0]; simp [endsE]
     rw [hz]
     exact ⟨A, c, h1.trans e, h3, h4⟩
   · exact IR.len h1
  obtain ⟨A6, c6, rfl, hc6, hC6⟩ := hrow
  have HC6 := Lib.hid hC6
  have HZS := Lib.hid hzs
  have cD := hJS.jat.c0
  clear hJS hzs hC6
  by_cases hlt : i < l.length
  · have hCi := Kd.C_below HC.out HB.out
    obtain ⟨ad, A8, c8, ea, a0, a1, a2, a3, a4, a5, a6, a7, a8, a9, l8, g8⟩ := K.at_T26 hCi (i : Int) (by omega) (by omega)
    subst ea
    have hrd : K.rd_T26 l (i : Int) = l[i] := by unfold K.rd_T26; rw [Int.toNat_natCast, List.getD_eq_getElem?_getD, List.getElem?_eq_getElem hlt]; rfl
    have hdr : l.drop i = l[i] :: l.drop (i + 1) := List.drop_eq_getElem_cons hlt
    have htk : l.take (i + 1) = l.take i ++ [l[i]] := List.take_succ_eq_append_getElem hlt
    have hEI := HEI.out
    rw [hdr, jErr] at hEI
    rw [hrd] at a0 a1 a2 a3 a4 a5 a6 a7 a8 a9 l8 g8
    rw [Int.toNat_natCast] at a0 a1 a2 a3 a4 a5 a6 a7 a8 a9
    generalize l[i] = x at hEI htk a0 a1 a2 a3 a4 a5 a6 a7 a8 a9 l8 g8
    have HTK := Lib.hid htk
    clear hrd hdr HEI hCi htk
    have hbx : Below wr.heap.size wr (wr.alloc (entO x A8 c8)) := (Below.refl _ _).alloc (Nat.le_refl _) _
    have HD := Lib.hid (frame_is x A8 c8 (wr.alloc (entO x A8 c8)) (Kd.C_below g8 hbx) l8)
    have HBX := Lib.hid hbx
    have HEI := Lib.hid hEI
    clear hbx g8 hEI
    by_cases h0 : frameErr x = 0
    · have hD := HD.out
      rw [if_pos h0, h0] at hD
      have HD2 := Lib.hid hD
      have HN : Hid (jErr (l.drop (i + 1)) = E) := Lib.hid (by have := HEI.out; rwa [if_pos h0] at this)
      have HF2 : Hid (∀ y ∈ l.take (i + 1), Fine y) := Lib.hid (by
       rw [HTK.out]
       intro y hy
       rcases List.mem_append.1 hy with hy | hy
       · exact HF.out y hy
       · rw [List.mem_singleton.1 hy]; exact frameErr_fine.1 h0)
      obtain ⟨fl, hfl⟩ : ∃ fl, flatE (l.take i) = fl := ⟨_, rfl⟩
      obtain ⟨al, hal⟩ : ∃ al, flatE (l.take (i + 1)) = al := ⟨_, rfl⟩
      have hal2 : al = fl ++ entF x := by rw [← hal, ← hfl, HTK.out, flatE_snoc]
      have hall : al.length ≤ 137438953472 := by
       have h1 := flat_len_fine HF2.out
       rw [hal, List.length_take] at h1
       have : min (i + 1) l.length ≤ 1048576 := by omega
       have := Nat.mul_le_mul_right 65543 this
       omega
      have hfll : fl.length + (entF x).length ≤ 137438953472 := by rw [hal2, List.length_append] at hall; exact hall
      rw [hfl] at HA ⊢
      have HAL := Lib.hid hal
      have HAL2 := Lib.hid hal2.symm
      clear HD HEI h0 hD hal hal2 hfl
      obtain ⟨fx, hfx⟩ : ∃ fx, entF x = fx := ⟨_, rfl⟩
      rw [hfx] at HD2 HAL2 hfll
      clear hfx
      go_upto_region 12 with (first
       | (go_at_call 139; refine HD2.out.mono ?_; rintro e w2 ⟨v2, rfl, hr, hb⟩; obtain ⟨A2, k2, rfl, hk2, hC2⟩ := BR.len hr; have HC2 := Lib.hid hC2; have HB2 := Lib.hid (HBX.out.trans (hb.mono HBX.out.size)); clear hr hb hC2 hk2)
       | (at_builtin; refine BR.append_ev2 (w := w2) (base := w.heap.size) (Kd.R_below HA.out HB2.out) HC2.out rfl (.tmp 32) (.tmp 33) rfl rfl rfl (Nat.le_trans HB.out.size HB2.out.size) (by omega) ?_; intro v3 w3 hr3 hb3 hg3; rw [HAL2.out] at hr3; obtain ⟨A3, k3, rfl, _, _⟩ := BR.len hr3; have HR3 := Lib.hid hr3; have HB3 := Lib.hid ((HB.out.trans (HB2.out.mono HB.out.size)).trans hb3); have HG3 := Lib.hid hg3; clear hr3 hb3 hg3))
      have HTA := Lib.hid (R_typ (Kd.R_below HA.out HB2.out))
      have HGE := Lib.hid (R_ge HA.out)
      have hm3 : ∀ k, k < wr.heap.size → (∀ cs, wr.heap[k]? ≠ some (.cells cs 5 (0, 0))) → w3.heap[k]? = wr.heap[k]? := fun k hk hn => by
       have h1 := HB2.out.block k hk
       refine (HG3.out.block k (Nat.lt_of_lt_of_le hk HB2.out.size) (fun e => ?_)).trans h1
       obtain ⟨cs, hcs⟩ := HTA.out k e.symm
       exact hn cs (by rw [← h1]; exact hcs)
      have hJ3 := (H.out.below HB3.out (Nat.le_refl _))
      have HJ3 := Lib.hid hJ3
      have HC63 : Hid (Kd.C (Kd.int .i64) w3 A6 zs.length zs) := Lib.hid (by
       rcases HS.out with ⟨h0, h1⟩ | h1
       · obtain ⟨A, c, e, h3, h4⟩ := hJ3.row
         have hz : zs = es := by rw [← HZS.out, h0]; simp [endsE]
         rw [hz] at h1 ⊢
         cases h1
         cases e
         exact h4
       · have h2 : IR w3 w.heap.size (.slice A6 zs.length c6) zs := R_typed (Kd.R_below h1 HB2.out) (t := 5) (by decide) HG3.out HTA.out
         obtain ⟨A, c, e, h3, h4⟩ := IR.len h2
         cases e
         exact h4)
      have hbd : Below w3.heap.size w3 w3.drew := below_drew1 (Below.refl _ _)
      have HJ0 := Lib.hid (hJ3.below hbd (Nat.le_refl _))
      have HC0 := Lib.hid (Kd.C_below HC63.out hbd)
      have HR0 := Lib.hid (Kd.R_below HR3.out hbd)
      have HB0 := Lib.hid (HB3.out.trans (hbd.mono HB3.out.size))
      clear hm3 hJ3 hbd a0 a1 a2 a3 a4 a5 a6 a7 a8 a9 cD HC6 HC2 HD2 HA HS HBX
      have hwr : wrap64 ((b.length : Int) + (al.length : Int)) = (b.length : Int) + (al.length : Int) := by unfold wrap64; omega
      refine start_ (n := 17) (S := fun w' => w'.cell? ⟨J, 0, none⟩ = some (.pointer (some ⟨D, 0, none⟩))) (ds := []) #[false, false, false, false, false, false, false, false, false, false, false, false, false, false, false, false, false] (by kernel_rfl) rfl rfl HJ0.out.jat.c0 (fun hHeld => ?_); refine with_tabW jaR12.tab jaR12.bits (fun HT_ HW_ => ?_)
      obtain ⟨WD, hWD⟩ : ∃ X, w3.drew = X := ⟨_, rfl⟩
      rw [hWD] at hHeld HJ0 HC0 HR0 HB0 ⊢
      clear hWD
      refine pure_ (i := 0) (N := (some 35)) (v := ?_) (a' := ?_) #[true, false, false, false, false, false, false, false, false, false, false, false, false, false, false, false, false] rfl rfl (any_of HT_.out (by kernel_rfl)) (fun _ _ _ h => h) (Or.inl ⟨by rfl, ?_⟩) ?_ ?_
      rotate_left
      · intro w'
        go_simp
        with_reducible rfl
      rotate_left
      · simp only [Act.put, sA_, sB_, sC_, i64_w, i32_w]
        rfl
      refine pure_ (i := 1) (N := (some 36)) (v := ?_) (a' := ?_) #[true, true, false, false, false, false, false, false, false, false, false, false, false, false, false, false, false] rfl rfl (any_of HT_.out (by kernel_rfl)) (fun _ _ _ h => h) (Or.inl ⟨by rfl, ?_⟩) ?_ ?_
      rotate_left
      · intro w'
        go_simp
        with_reducible rfl
      rotate_left
      · simp only [Act.put, sA_, sB_, sC_, i64_w, i32_w]
        rfl
      refine pure_ (i := 2) (N := (some 37)) (v := ?_) (a' := ?_) #[true, true, true, false, false, false, false, false, false, false, false, false, false, false, false, false, false] rfl rfl (any_of HT_.out (by kernel_rfl)) (fun _ _ _ h => h) (Or.inl ⟨by rfl, ?_⟩) ?_ ?_
      rotate_left
      · intro w'
        go_simp
        with_reducible rfl
      rotate_left
      · simp only [Act.put, sA_, sB_, sC_, i64_w, i32_w]
        rfl
      refine pure_ (i := 3) (N := (some 38)) (v := ?_) (a' := ?_) #[true, true, true, true, false, false, false, false, false, false, false, false, false, false, false, false, false] rfl rfl (any_of HT_.out (by kernel_rfl)) (fun _ _ _ h => h) (Or.inl ⟨by rfl, ?_⟩) ?_ ?_
      rotate_left
      · intro w'
        go_simp
        with_reducible rfl
      rotate_left
      · simp only [Act.put, sA_, sB_, sC_, i64_w, i32_w]
        rfl
      refine pure_ (i := 4) (N := (some 39)) (v := ?_) (a' := ?_) #[true, true, true, true, true, false, false, false, false, false, false, false, false, false, false, false, false] rfl rfl (any_of HT_.out (by kernel_rfl)) (fun _ _ _ h => h) (Or.inl ⟨by rfl, ?_⟩) ?_ ?_
      rotate_left
      · intro w'
        go_simp
        with_reducible rfl
      rotate_left
      · simp only [Act.put, sA_, sB_, sC_, i64_w, i32_w]
        rfl
      refine pure_ (i := 5) (N := (some 40)) (v := ?_) (a' := ?_) #[true, true, true, true, true, true, false, false, false, false, false, false, false, false, false, false, false] rfl rfl (any_of HT_.out (by kernel_rfl)) (fun _ _ _ h => h) (Or.inl ⟨by rfl, ?_⟩) ?_ ?_
      rotate_left
      · intro w'
        go_simp
        with_reducible rfl
      rotate_left
      · simp only [Act.put, sA_, sB_, sC_, i64_w, i32_w]
        rfl
      refine pure_ (i := 6) (N := (some 41)) (v := ?_) (a' := ?_) #[true, true, true, true, true, true, true, false, false, false, false, false, false, false, false, false, false] rfl rfl (any_of HT_.out (by kernel_rfl)) (fun _ _ _ h => h) (Or.inl ⟨by rfl, ?_⟩) ?_ ?_
      rotate_left
      · intro w'
        go_simp
        with_reducible rfl
      rotate_left
      · simp only [Act.put, sA_, sB_, sC_, i64_w, i32_w]
        rfl
      refine pure_ (i := 7) (N := (some 42)) (v := ?_) (a' := ?_) #[true, true, true, true, true, true, true, true, false, false, false, false, false, false, false, false, false] rfl rfl (any_of HT_.out (by kernel_rfl)) (fun _ _ _ h => h) (Or.inl ⟨by rfl, ?_⟩) ?_ ?_
      rotate_left
      · intro w'
        go_simp
        with_reducible rfl
      rotate_left
      · simp only [Act.put, sA_, sB_, sC_, i64_w, i32_w]
        rfl
      refine pure_ (i := 8) (N := (some 43)) (v := ?_) (a' := ?_) #[true, true, true, true, true, true, true, true, true, false, false, false, false, false, false, false, false] rfl rfl (any_of HT_.out (by kernel_rfl)) (fun _ _ _ h => h) (Or.inl ⟨by rfl, ?_⟩) ?_ ?_
      rotate_left
      · intro w'
        go_simp
        with_reducible rfl
      rotate_left
      · simp only [Act.put, sA_, sB_, sC_, i64_w, i32_w]
        rfl
      refine pure_ (i := 11) (N := (some 46)) (v := ?_) (a' := ?_) #[true, true, true, true, true, true, true, true, true, false, false, true, false, false, false, false, false] rfl rfl (any_of HT_.out (by kernel_rfl)) (fun _ _ _ h => h) (Or.inl ⟨by rfl, ?_⟩) ?_ ?_
      rotate_left
      · intro w'
        go_simp
        with_reducible rfl
      rotate_left
      · simp only [Act.put, sA_, sB_, sC_, i64_w, i32_w]
        rfl
      refine pure_ (i := 12) (N := (some 47)) (v := ?_) (a' := ?_) #[true, true, true, true, true, true, true, true, true, false, false, true, true, false, false, false, false] rfl rfl (any_of HT_.out (by kernel_rfl)) (fun _ _ _ h => h) (Or.inl ⟨by rfl, ?_⟩) ?_ ?_
      rotate_left
      · intro w'
        go_simp
        with_reducible rfl
      rotate_left
      · simp only [Act.put, sA_, sB_, sC_, i64_w, i32_w]
        rfl
      refine take_ (i := 9) (N := (some 44)) (v := ?_) (a' := ?_) #[true, true, true, true, true, true, true, true, true, true, false, true, true, false, false, false, false] rfl rfl (take_ofW HT_.out HW_.out (by kernel_rfl)) (fun _ _ _ h => h) (Or.inl ⟨by rfl, ?_⟩) hHeld ?_ ?_
      rotate_left
      · rintro w' s0
        go_simp
        with_reducible rfl
      rotate_left
      · simp only [Act.put, sA_, sB_, sC_, i64_w, i32_w]
        rfl
      refine one_ (i := 10) (N := (some 45)) #[true, true, true, true, true, true, true, true, true, true, true, true, true, false, false, false, false] rfl rfl (one_of HT_.out (by kernel_rfl)) (by decide) (fun K hK => ?_)
      refine goes_ Try.func39 (by kernel_rfl) rfl #[.pointer (some ⟨D, 0, none⟩)] (by rfl) rfl rfl (by (try simp only [List.map_toArray, List.map_cons, List.map_nil]); first | done | rfl) ?_
      refine (len_is HJ0.out.disk).mono ?_
      rintro e w' ⟨rfl, rfl⟩
      refine ⟨_, rfl, ?_⟩
      refine hK.out _ _ HJ0.out.jat.c0 (fun hHeld => ?_)
      clear hK K
      refine norm_ (a' := ?_) ?_ ?_
      rotate_left
      · show Act.put _ (some 45) _ = _
        simp only [Act.put, sA_, sB_, sC_, i64_w, i32_w]
        rfl
      refine pure_ (i := 13) (N := (some 48)) (v := ?_) (a' := ?_) #[true, true, true, true, true, true, true, true, true, true, true, true, true, true, false, false, false] rfl rfl (any_of HT_.out (by kernel_rfl)) (fun _ _ _ h => h) (Or.inl ⟨by rfl, ?_⟩) ?_ ?_
      rotate_left
      · intro w'
        go_simp
        with_reducible rfl
      rotate_left
      · simp only [Act.put, sA_, sB_, sC_, i64_w, i32_w]
        rfl
      refine one_ (i := 14) (N := (some 49)) #[true, true, true, true, true, true, true, true, true, true, true, true, true, true, true, false, false] rfl rfl (one_of HT_.out (by kernel_rfl)) (by decide) (fun K hK => ?_)
      refine value_ (w1 := WD.alloc (.cells #[.int .i64 ((b.length : Int) + (al.length : Int))] 3)) (v := .slice (some ⟨WD.heap.size, 0, none⟩) 1 1) (by rfl) rfl ?_ ?_
      · go_simp
        first | done | rfl | rw [hwr]
      refine hK.out _ _ (HJ0.out.below ((Below.refl WD.heap.size WD).alloc (Nat.le_refl _) (.cells #[.int .i64 ((b.length : Int) + (al.length : Int))] 3)) (Nat.le_refl _)).jat.c0 (fun hHeld => ?_)
      clear hK K
      refine norm_ (a' := ?_) ?_ ?_
      rotate_left
      · show Act.put _ (some 49) _ = _
        simp only [Act.put, sA_, sB_, sC_, i64_w, i32_w]
        rfl
      refine one_ (i := 15) (N := (some 50)) #[true, true, true, true, true, true, true, true, true, true, true, true, true, true, true, true, false] rfl rfl (one_of HT_.out (by kernel_rfl)) (by decide) (fun K hK => ?_)
      obtain ⟨v5, w5, hrun, hI, hB5⟩ := IR.full WD 42 A6 zs ((b.length : Int) + (al.length : Int)) HC0.out (by omega)
      obtain ⟨z2, hz2⟩ : ∃ z2, zs ++ [((b.length : Int) + (al.length : Int))] = z2 := ⟨_, rfl⟩
      rw [hz2] at hI
      have HZ2 := Lib.hid hz2
      clear hz2
      obtain ⟨A7, k7, rfl, _, _⟩ := IR.len hI
      refine value_ (w1 := w5) (v := _) (by rfl) rfl (append_value (s := .tmp 40) (x := .tmp 49) rfl rfl rfl hrun) ?_
      have HR5 := Lib.hid (Kd.R_below HR0.out hB5)
      refine hK.out _ _ (HJ0.out.below hB5 (Nat.le_refl _)).jat.c0 (fun hHeld => ?_)
      clear hK K
      refine norm_ (a' := ?_) ?_ ?_
      rotate_left
      · show Act.put _ (some 50) _ = _
        simp only [Act.put, sA_, sB_, sC_, i64_w, i32_w]
        rfl
      refine pure_ (i := 16) (N := (some 6)) (v := ?_) (a' := ?_) #[true, true, true, true, true, true, true, true, true, true, true, true, true, true, true, true, true] rfl rfl (any_of HT_.out (by kernel_rfl)) (fun _ _ _ h => h) (Or.inl ⟨by rfl, ?_⟩) ?_ ?_
      rotate_left
      · intro w'
        go_simp
        with_reducible rfl
      rotate_left
      · simp only [Act.put, sA_, sB_, sC_, i64_w, i32_w]
        rfl
      refine done_ (done_of HT_.out (by kernel_rfl)) ?_
      have HIR := Lib.hid hI
      clear hwr
      have hB5 := HB0.out.trans (hB5.mono HB0.out.size)
      have HB5 := Lib.hid hB5
      clear hI hB5 hrun
      go_wp2
      go_roundg (l.length - (i + 1))
      case measure => omega
      case rel => exact ⟨i + 1, _, _, rfl, rfl, by go_num, by omega, rfl, HN, HF2, Lib.hid (by rw [HAL.out]; exact HR5.out), Lib.hid (.inr (by rw [HTK.out, endsE_snoc, ← List.append_assoc, HZS.out, ← HTK.out, HAL.out, Int.natCast_add, HZ2.out]; exact Kd.R_lower HIR.out HB0.out.size)), HB5⟩
    · have hD := HD.out
      rw [if_neg h0] at hD
      have hN : frameErr x = E := by have := HEI.out; rwa [if_neg h0] at this
      rw [hN] at hD h0
      have t0 : (E != 0) = true := by simpa using h0
      have hRE : R = E := by rw [← HR.out]; unfold jappE; rw [HE.out, if_neg h0]
      have hRL : RL = b := by rw [← HRL.out]; unfold jappL; rw [HE.out, if_neg h0]
      have hREs : RE = es := by rw [← HRE.out]; unfold jappEs; rw [HR.out, hRE, if_neg h0]
      subst hRE hRL hREs
      have HD2 := Lib.hid hD
      clear HD HEI hD hN h0
      go_wp2_with (go_at_call 139; refine HD2.out.mono ?_; rintro e w2 ⟨v2, rfl, hr, hb⟩; obtain ⟨A2, k2, rfl, hk2, hC2⟩ := BR.len hr; have HB2 := Lib.hid (HB.out.trans ((HBX.out.trans (hb.mono HBX.out.size)).mono HB.out.size)); clear hr hb hC2 hk2)
      go_ret
      exact ⟨rfl, _, _, H.out.below HB2.out (Nat.le_refl _), JStep.of_below _ _ _ _ HB2.out⟩
  · obtain rfl : i = l.length := by omega
    have hE0 : E = 0 := by have := HEI.out; rw [List.drop_length] at this; exact this.symm
    subst hE0
    rw [List.take_length] at HA ⊢
    have hzs := HZS.out
    rw [List.take_length] at hzs
    have hRE : R = appE m b (flatE l) := by rw [← HR.out]; unfold jappE; rw [HE.out, if_pos rfl]
    have hRL : RL = appL m b (flatE l) := by rw [← HRL.out]; unfold jappL; rw [HE.out, if_pos rfl]
    have hREs : RE = if appE m b (flatE l) = 0 then zs else es := by rw [← HRE.out, ← hzs]; unfold jappEs; rw [HR.out, hRE]
    obtain ⟨A5', c5', e5, _, hC5⟩ := BR.len HA.out
    obtain ⟨fl, hfl⟩ : ∃ fl, flatE l = fl := ⟨_, rfl⟩
    rw [hfl] at HA hRE hRL hREs e5 hC5 ⊢
    cases e5
    have HAP := Lib.hid (append_any HJR.out.disk A5 c5 hC5)
    rw [← hRE, ← hRL] at HAP
    rw [← hRE] at hREs
    have HRZ := Lib.hid hREs
    clear hzs hRE hRL hREs hC5 hfl
    by_cases hR0 : R = 0
    · have hz : RE = zs := by rw [HRZ.out, if_pos hR0]
      subst hR0
      have HRZ2 := Lib.hid hz
      clear HRZ hz
      go_upto_region 17 with (go_at_call 29; refine HAP.out.mono ?_; rintro e w2 ⟨rfl, v2, hd, hst⟩; have HJ2 := Lib.hid (HJR.out.acted hst hd); have HST := Lib.hid hst; clear hd hst)
      have cf := HJ2.out.jat.f 1
      have cc := HJ2.out.jat.c1
      have hfin : JS (w2.setCell ⟨J, 1, none⟩ (.slice A6 zs.length c6)) base J D (.slice A6 zs.length c6) v2 RE RL s m ∧ ((Value.slice A6 zs.length c6).ownBlock = (Value.slice AE es.length cE).ownBlock ∨ (Value.slice A6 zs.length c6).ownBlock = none ∨ ∃ b, (Value.slice A6 zs.length c6).ownBlock = some b ∧ w.heap.size ≤ b) := by
       rw [HRZ2.out]
       rcases HS.out with ⟨h0, h1⟩ | h1
       · have hz : zs = es := by rw [← HZS.out, h0]; simp [endsE]
         rw [hz] at h1 ⊢
         rw [h1]
         exact ⟨HJ2.out.storeSame, .inl rfl⟩
       · have hI : IR w2 w.heap.size (.slice A6 zs.length c6) zs := HST.out.R h1 H.out.disk.cells.lt (fun k hk => (H.out.disk.row.block hk).2.1)
         refine ⟨HJ2.out.storeE hI hJw (by omega), ?_⟩
         rcases hq : (Value.slice A6 zs.length c6).ownBlock with _ | k
         · exact .inr (.inl rfl)
         · exact .inr (.inr ⟨k, rfl, R_ge hI k hq⟩)
      have HFIN := Lib.hid hfin
      clear hfin
      go_wp2
      go_ret
      exact ⟨rfl, _, _, HFIN.out.1, ((JStep.of_below J D _ _ HB.out).trans (JStep.of_disk J _ HST.out)).put _ _ HFIN.out.2⟩
    · have t0 : (R != 0) = true := by simpa using hR0
      have hz : RE = es := by rw [HRZ.out, if_neg hR0]
      have HRZ2 := Lib.hid hz
      clear HRZ hz hR0
      go_wp2_with (go_at_call 29; refine HAP.out.mono ?_; rintro e w2 ⟨rfl, v2, hd, hst⟩; have HJ2 := Lib.hid (HJR.out.acted hst hd); have HST := Lib.hid hst; clear hd hst)
      go_ret
      exact ⟨rfl, _, _, by rw [HRZ2.out]; exact HJ2.out, (JStep.of_below J D _ _ HB.out).trans (JStep.of_disk J _ HST.out)⟩
end Go.Proofs.Ytmbnjgnmblgjoaa.Man
end
section
namespace Go.Proofs.Ytmbnjgnmblgjoaa.Man
open Go.RowKit Go.Proofs.YtmbnjgnmblgjoaaW.PrintWords Go.Proofs.YtmbnjgnmblgjoaaW.PrintLast Go.Proofs.YtmbnjgnmblgjoaaW.PrintMore
set_option linter.unusedVariables false
set_option linter.unusedSimpArgs false
set_option maxRecDepth 100000
theorem IR.push_ev {ops : Array Oper} {rest : List Oper} {o : Oper} {a : Act} {Q : Exit → Act → World → Prop} {w : World} {base : Nat} {v : Value} {xs : List Int} {y : Int}
 (h : IR w base v xs) (hgd : o.guard = none) (s x : Operand) (ho : o.op = .call { callee := .builtin .append, args := #[s, x], argTypes := #[42, 42] })
 (hs : a.eval s = v) (hx : a.eval x = .slice (some ⟨w.heap.size, 0, none⟩) 1 1) (hbase : base ≤ w.heap.size) (hl : xs.length + 1 ≤ 4194304)
 (k : ∀ v1 w1, IR w1 base v1 (xs ++ [y]) → Below base w w1 → w.grownBy w1 v.ownBlock → wpList Try.prog ops Q rest (a.put o.dst v1) w1) : wpList Try.prog ops Q (o :: rest) a (w.alloc (.cells #[.int .i64 y] 3)) :=
 Kd.R_append (Kd.int .i64) (w0 := w) base hgd s x 42 3 (.int .i64 0) 8 ho Try.underlying42 info_int rfl (by decide) (by omega) v xs y [.int .i64 y] (fun _ => True) (fun _ => False) hs hx rfl (fun _ h => h.elim) (fun _ _ => trivial) h (Below.refl _ _) hbase (by omega)
  (fun v1 w1 h1 h2 h3 h4 => k v1 w1 h1 h2 h3)
theorem ER.push_ev {ops : Array Oper} {rest : List Oper} {o : Oper} {a : Act} {Q : Exit → Act → World → Prop} {w : World} {base : Nat} {v : Value} {xs : List K.S26} {x : K.S26} {Au : Option Addr} {cu : Nat}
 (h : ER w base v xs) (ht : TR w base (.slice Au x.f2.f6.length cu) x.f2.f6) (hgd : o.guard = none) (s y : Operand) (ho : o.op = .call { callee := .builtin .append, args := #[s, y], argTypes := #[69, 69] })
 (hs : a.eval s = v) (hx : a.eval y = .slice (some ⟨w.heap.size, 0, none⟩) 1 1) (hbase : base ≤ w.heap.size) (hl : xs.length + 1 ≤ 4194304)
 (k : ∀ v1 w1, ER w1 base v1 (xs ++ [x]) → Below base w w1 → w.grownBy w1 v.ownBlock → wpList Try.prog ops Q rest (a.put o.dst v1) w1) : wpList Try.prog ops Q (o :: rest) a (w.alloc (entO x Au cu)) :=
 Kd.R_append Go.Proofs.Ytmbnjgnmblgjoaa.K.k26 (w0 := w) base hgd s y 69 26 (.agg #[.int .i64 0, .int .i64 0, .int .i64 0, .int .i64 0, .int .i64 0, .int .i64 0, .int .i64 0, .int .i64 0, .slice none 0 0, .int .i64 0]) 96 ho Try.underlying69 info_ent rfl (by decide) (by decide) v xs x [.int .i64 x.f0, .int .i64 x.f1, .int .i64 x.f2.f0, .int .i64 x.f2.f1, .int .i64 x.f2.f2, .int .i64 x.f2.f3, .int .i64 x.f2.f4, .int .i64 x.f2.f5, .slice Au x.f2.f6.length cu, .int .i64 x.f2.f7] (fun _ => True) (fun j => some j = (Value.slice Au x.f2.f6.length cu).ownBlock) hs hx (Go.Proofs.Ytmbnjgnmblgjoaa.K.k26_mkM _ _ _ _ (TR.tight ht)) (fun j hj => ⟨trivial, fun e => apart_types (R_typ ht j hj.symm) (R_typ h j e.symm) (by decide)⟩) (fun _ _ => trivial) h (Below.refl _ _) hbase (by omega)
  (fun v1 w1 h1 h2 h3 h4 => k v1 w1 h1 h2 h3)
theorem openF_small (b : List Int) (p : Nat) : (openF b (p : Int)).1.length ≤ 65536 := by
 unfold openF
 split
 · simp
 · split
   · simp
   · split
     · simp
     · split
       · simp
       · simp only
         unfold mid
         rw [List.length_drop, List.length_take]
         omega
structure RJo (w W : World) (D J : Nat) (vE vL : Value) (done : List K.S26) : Prop where
 jr : RJAt W J D vE
 ends : IR W (J + 1) vE (endsE 0 done)
 ents : ER W (J + 1) vL done
 bel : Below w.heap.size w W
 sz : J + 1 ≤ W.heap.size
 j0 : w.heap.size ≤ J
section
variable {w W W' : World} {D J : Nat} {vE vL v' : Value} {done : List K.S26}
theorem RJo.below (h : RJo w W D J vE vL done) (hb : Below W.heap.size W W') : RJo w W' D J vE vL done :=
 ⟨(hb.block _ h.jr.lt).trans h.jr, Kd.R_below h.ends hb, Kd.R_below h.ents hb, h.bel.trans (hb.mono h.bel.size), Nat.le_trans h.sz hb.size, h.j0⟩
theorem RJo.putL {x : K.S26} (h : RJo w W D J vE vL done) (hg : W.grownBy W' vL.ownBlock) (hr : ER W' (J + 1) v' (done ++ [x])) : RJAt W' J D vE ∧ IR W' (J + 1) vE (endsE 0 done) ∧ Below w.heap.size w W' ∧ J + 1 ≤ W'.heap.size := by
 have hge : ∀ r, vL.ownBlock = some r → J + 1 ≤ r := R_ge h.ents
 refine ⟨(hg.block _ h.jr.lt (fun e => by have := hge _ e.symm; omega)).trans h.jr, R_typed h.ends (t := 26) (by decide) hg (R_typ h.ents), h.bel.grown hg h.bel.size (fun r e => by have := hge r e; have := h.j0; omega), Nat.le_trans h.sz hg.size⟩
theorem RJAt.grown {es : List Int} (h : RJAt W J D vE) (hi : IR W (J + 1) vE es) (hg : W.grownBy W' vE.ownBlock) : RJAt W' J D vE := (hg.block _ h.lt (fun e => by have := R_ge hi J e.symm; omega)).trans h
theorem RJo.putE {es : List Int} {done : List K.S26} (jr : RJAt W J D vE) (hi : IR W (J + 1) vE es) (hl : ER W (J + 1) vL done) (hb : Below w.heap.size w W) (hz : J + 1 ≤ W.heap.size) (j0 : w.heap.size ≤ J) (hg : W.grownBy W' vE.ownBlock) (hr : IR W' (J + 1) v' (endsE 0 done)) : RJo w (W'.setCell ⟨J, 1, none⟩ v') D J v' vL done := by
 have hge : ∀ r, vE.ownBlock = some r → J + 1 ≤ r := R_ge hi
 have hL : ER W' (J + 1) vL done := R_typed hl (t := 3) (by decide) hg (R_typ hi)
 refine ⟨(jr.grown hi hg).put1 v', ?_, ER.set hL (by omega) 1 _, (hb.grown hg hb.size (fun r e => by have := hge r e; omega)).setCell (p := ⟨J, 1, none⟩) j0 _, by have := hg.size; simp [World.setCell]; omega, j0⟩
 exact Kd.R_mono (Kd.R_grown (Kd.R_bound hr) (grownBy_set W' J 1 _ (World.grownBy.refl W' _)) (fun k hk e => by cases e; have := hk.2.1; omega)) (fun _ _ => trivial)
end
set_option maxHeartbeats 16000000 in
theorem rjopen_is {w : World} {dbase D : Nat} {v : Value} {b : List Int} {s m : Int} (hD : RefS w dbase D v b s m) (hB : areBytesN b = true) {xs : List K.S26} {r : List Int} (hL : LogOf b xs r) :
 Calls Try.prog 80 #[.pointer (some ⟨D, 0, none⟩)] w fun e w' => ∃ J vE vL v', e = .returned (.tuple #[.pointer (some ⟨J, 0, none⟩), vL]) ∧ w.heap.size ≤ J ∧ RJAt w' J D vE ∧ IR w' w.heap.size vE (endsE 0 xs) ∧ ER w' w.heap.size vL xs ∧ RefS w' dbase D v' (flatE xs) ((flatE xs).length : Int) m ∧ DStep w w' D v v' := by
 have hblen : b.length ≤ 262144 := by have := hD.len; have := hD.m1; omega
 have hfl := hL.len
 have hxl := flat_len_ge xs
 have hDl := hD.cells.lt
 obtain ⟨A, c, rfl, hc⟩ := hD.row.len
 have HD := Lib.hid hD
 have HB := Lib.hid hB
 have HL := Lib.hid hL
 obtain ⟨wJ, hwJ⟩ : ∃ wJ, w.alloc (.cells #[.pointer (some ⟨D, 0, none⟩), .slice none 0 0] 124) = wJ := ⟨_, rfl⟩
 have HJ : Hid (RJo w wJ D w.heap.size (.slice none 0 0) (.slice none 0 0) []) := Lib.hid (by
  rw [← hwJ]
  exact ⟨World.alloc_heap_new w _, Kd.R_nil _ _ _ _ _, Kd.R_nil _ _ _ _ _, (Below.refl _ _).alloc (Nat.le_refl _) _, by rw [World.size_alloc]; omega, Nat.le_refl _⟩)
 clear hD hB hL
 go_enter Try.func80, Try.ntmps80
 go_upto_region 4 with (fail)
 obtain ⟨J, hJ⟩ : ∃ J, w.heap.size = J := ⟨_, rfl⟩
 have HJJ := Lib.hid hJ
 rw [hJ] at HJ ⊢
 clear hJ hwJ
 have hfin : ∀ (W : World) (vE vL : Value), RJo w W D J vE vL xs →
  Calls Try.prog 36 #[.pointer (some ⟨D, 0, none⟩), .int .i64 ((flatE xs).length : Int)] W (fun e w' => e = .returned (.int .i64 0) ∧ ∃ v', RefS w' dbase D v' (flatE xs) ((flatE xs).length : Int) m ∧ DStep W w' D (.slice A b.length c) v') ∧
  ∀ (w' : World) (v' : Value), RefS w' dbase D v' (flatE xs) ((flatE xs).length : Int) m → DStep W w' D (.slice A b.length c) v' →
   w.heap.size ≤ J ∧ RJAt w' J D vE ∧ IR w' w.heap.size vE (endsE 0 xs) ∧ ER w' w.heap.size vL xs ∧ RefS w' dbase D v' (flatE xs) ((flatE xs).length : Int) m ∧ DStep w w' D (.slice A b.length c) v' := fun W vE vL h => by
  have hDW := HD.out.below h.bel (Nat.le_refl _)
  have hcut := refCut_is hDW (flatE xs).length hfl
  rw [HL.out.take] at hcut
  refine ⟨hcut, fun w' v' hr st => ?_⟩
  have hj0 := h.j0
  have hv : ∀ k, (Value.slice A b.length c).ownBlock = some k → k < w.heap.size := fun k hk => (HD.out.row.block hk).2.1
  exact ⟨hj0, (st.block _ h.jr.lt (by omega) (fun e => by have := hv _ e.symm; omega)).trans h.jr,
   Kd.R_lower (st.R h.ends (by omega) (fun k hk => by have := hv k hk; omega)) (by omega),
   Kd.R_lower (st.R h.ents (by omega) (fun k hk => by have := hv k hk; omega)) (by omega), hr, (DStep.of_below_ D _ h.bel).then_ st⟩
 have HF := Lib.hid hfin
 clear hfin
 go_wp2
 go_loopg [5, 6] (xs.length + 1) (fun g s5 s6 wr => ∃ (done rest : List K.S26) (vE vL : Value), vL = s5 ∧ s6 = .int .i64 ((flatE done).length : Nat) ∧ g = rest.length + 1 ∧ (flatE done).length ≤ b.length ∧ done.length ≤ xs.length ∧ Hid (xs = done ++ rest) ∧ Hid (RJo w wr D J vE vL done))
 case atStart => exact ⟨[], xs, .slice none 0 0, .slice none 0 0, rfl, rfl, rfl, Nat.zero_le _, Nat.zero_le _, Lib.hid rfl, HJ⟩
 case round =>
  clear HJ
  obtain ⟨done, rest, vE, vL, rfl, rfl, hg, hat, hdl, HX, HJ⟩ := hrel
  have HDW := Lib.hid (HD.out.below HJ.out.bel (Nat.le_refl _))
  have c0 := HDW.out.cells.c0
  have HCb := Lib.hid HDW.out.row.C.2
  rcases rest with _ | ⟨x, suf⟩
  · have hX := HX.out
    rw [List.append_nil] at hX
    subst hX
    obtain ⟨P, hP⟩ : ∃ P, (flatE xs).length = P := ⟨_, rfl⟩
    have HE := HL.out.open_end HB.out
    rw [hP] at HE HF hat hfl ⊢
    have HPP := Lib.hid hP
    clear hP
    have HO := Lib.hid (ropen_is A c b P wr HCb.out hc HB.out (by omega) hat)
    obtain ⟨R, hR⟩ : ∃ R, openF b (P : Int) = R := ⟨_, rfl⟩
    rw [hR] at HO HE
    have HRR := Lib.hid hR
    clear hR
    obtain ⟨y, nx, er⟩ := R
    simp only at HO HE
    have hyl : y.length ≤ 65536 ∧ areBytesN y = true := by
     have h1 : (openF b (P : Int)).1 = y := by rw [HRR.out]
     exact ⟨by rw [← h1]; exact openF_small b P, by rw [← h1]; exact openF_bytes b P HB.out⟩
    obtain ⟨hyl, hyB⟩ := hyl
    have HYB := Lib.hid hyB
    clear hyB
    by_cases hlt : P < b.length
    · by_cases he : er = 0
      · subst he
        have hE : (getEntryF y).2 ≠ 0 := by rcases HE with h | h; exact absurd rfl h; exact h
        obtain ⟨G, hG⟩ : ∃ G, getEntryF y = G := ⟨_, rfl⟩
        obtain ⟨x, eg⟩ := G
        rw [hG] at hE
        simp only at hE
        have HG := Lib.hid hG
        clear HE hG
        have hlt' : (P : Int) < b.length := by omega
        go_upto_region 7 with (go_at_call 140; refine HO.out.mono ?_; rintro e w2 ⟨u, rfl, hr, hb⟩; obtain ⟨A2, k2, rfl, hk2, hC2⟩ := BR.len hr; have HC2 := Lib.hid hC2; have HK2 := Lib.hid hk2; have HJ2 := Lib.hid (HJ.out.below hb); clear hr hb hC2 hk2)
        have HGE := Lib.hid (rgetEntry_is w2 A2 k2 y HC2.out HK2.out HYB.out (by omega))
        rw [HG.out] at HGE
        go_upto_region 8 with (go_at_call 65; refine HGE.out.mono ?_; rintro e w3 ⟨u, rfl, ⟨t, rfl, hr⟩, hb⟩; obtain ⟨A7, k7, rfl, _, _⟩ := TR.C hr; have HJ3 := Lib.hid (HJ2.out.below hb); clear hr hb)
        have hb4 := (Below.refl w3.heap.size w3).alloc (Nat.le_refl _) (.cells #[.int .i64 x.f0, .int .i64 x.f1, .int .i64 x.f2.f0, .int .i64 x.f2.f1, .int .i64 x.f2.f2, .int .i64 x.f2.f3, .int .i64 x.f2.f4, .int .i64 x.f2.f5, .slice A7 x.f2.f6.length k7, .int .i64 x.f2.f7] 26)
        obtain ⟨HCUT, HFIN⟩ := HF.out _ _ _ (HJ3.out.below hb4)
        have HCUT := Lib.hid HCUT
        have HFIN := Lib.hid HFIN
        clear HF HO HGE hb4
        go_wp2_with (go_at_call 36; refine HCUT.out.mono ?_; rintro e wc ⟨rfl, v2, hr, st⟩; have HRC := Lib.hid hr; have HST := Lib.hid st; clear hr st)
        go_ret2
        have hf := HFIN.out _ _ HRC.out HST.out
        rw [← HPP.out] at hf
        exact ⟨J, vE, vL, v2, rfl, hf⟩
      · clear HE
        have hlt' : (P : Int) < b.length := by omega
        go_upto_region 6 with (go_at_call 140; refine HO.out.mono ?_; rintro e w2 ⟨u, rfl, hr, hb⟩; have HJ2 := Lib.hid (HJ.out.below hb); clear hr hb)
        obtain ⟨HCUT, HFIN⟩ := HF.out _ _ _ HJ2.out
        have HCUT := Lib.hid HCUT
        have HFIN := Lib.hid HFIN
        clear HF HO
        go_wp2_with (go_at_call 36; refine HCUT.out.mono ?_; rintro e wc ⟨rfl, v2, hr, st⟩; have HRC := Lib.hid hr; have HST := Lib.hid st; clear hr st)
        go_ret2
        have hf := HFIN.out _ _ HRC.out HST.out
        rw [← HPP.out] at hf
        exact ⟨J, vE, vL, v2, rfl, hf⟩
    · clear HE
      obtain ⟨HCUT, HFIN⟩ := HF.out _ _ _ HJ.out
      have HCUT := Lib.hid HCUT
      have HFIN := Lib.hid HFIN
      clear HF HO
      go_wp2_with (go_at_call 36; refine HCUT.out.mono ?_; rintro e wc ⟨rfl, v2, hr, st⟩; have HRC := Lib.hid hr; have HST := Lib.hid st; clear hr st)
      go_ret2
      have hf := HFIN.out _ _ HRC.out HST.out
      rw [← HPP.out] at hf
      exact ⟨J, vE, vL, v2, rfl, hf⟩
  · have hX := HX.out
    obtain ⟨ho, hg1⟩ := HL.out.open_at HB.out hX
    have hX2 : xs = (done ++ [x]) ++ suf := by rw [hX]; simp
    have hF := HL.out.fine x (by rw [hX]; simp)
    have hsn := flatE_snoc done x
    have h5 := entF_pos x
    have h2l : (flatE (done ++ [x])).length ≤ b.length := by
     have h : flatE xs = flatE (done ++ [x]) ++ flatE suf := by rw [← flatE_append, ← hX2]
     have := congrArg List.length h
     rw [List.length_append] at this
     omega
    have hsl := congrArg List.length hsn
    rw [List.length_append] at hsl
    have hends := endsE_snoc x 0 done
    rw [Nat.zero_add] at hends
    have hdl2 : (done ++ [x]).length ≤ xs.length := by rw [hX2]; simp
    obtain ⟨P, hP⟩ : ∃ P, (flatE done).length = P := ⟨_, rfl⟩
    obtain ⟨P2, hP2⟩ : ∃ P2, (flatE (done ++ [x])).length = P2 := ⟨_, rfl⟩
    obtain ⟨y, hy⟩ : ∃ y, entryB x = y := ⟨_, rfl⟩
    rw [hP, hP2, hy] at ho
    rw [hP, hP2] at hsl
    rw [hP2] at h2l hends
    rw [hP] at hat ⊢
    rw [hy] at hg1
    have hyl : y.length ≤ 65536 := by rw [← hy]; exact hF.2
    have hyB : areBytesN y = true := by rw [← hy]; exact entryB_bytes x
    have hlt : P < b.length := by omega
    have hlt' : (P : Int) < b.length := by omega
    have HO := Lib.hid (ropen_is A c b P wr HCb.out hc HB.out (by omega) hat)
    rw [ho] at HO
    have HG := Lib.hid hg1
    have HYB := Lib.hid hyB
    have HX2 := Lib.hid hX2
    have HP2 := Lib.hid hP2
    have HEN := Lib.hid hends
    have HDL := Lib.hid hdl2
    have h2l' : (P2 : Int) ≤ 262144 := by omega
    have HSL : Hid (P2 ≤ b.length) := Lib.hid h2l
    have hdl3 : done.length + 1 ≤ 262144 := by have := hdl2; rw [List.length_append, List.length_singleton] at this; omega
    have HD3 := Lib.hid hdl3
    clear ho hg1 hX hX2 hsn h5 h2l hsl hends hP hP2 hy hyB hF hdl2 hdl3 HX hlt hdl
    go_upto_region 7 with (go_at_call 140; refine HO.out.mono ?_; rintro e w2 ⟨u, rfl, hr, hb⟩; obtain ⟨A2, k2, rfl, hk2, hC2⟩ := BR.len hr; have HC2 := Lib.hid hC2; have HK2 := Lib.hid hk2; have HJ2 := Lib.hid (HJ.out.below hb); clear hr hb hC2 hk2)
    have HGE := Lib.hid (rgetEntry_is w2 A2 k2 y HC2.out HK2.out HYB.out (by omega))
    rw [HG.out] at HGE
    go_upto_region 8 with (go_at_call 65; refine HGE.out.mono ?_; rintro e w3 ⟨u, rfl, ⟨t, rfl, hr⟩, hb⟩; obtain ⟨A7, k7, rfl, l7, hC7⟩ := TR.C hr; have HT3 := Lib.hid (Kd.R_lower hr HJ2.out.sz); have HJ3 := Lib.hid (HJ2.out.below hb); clear hr hb l7 hC7)
    clear HO HGE HG HYB HJ HJ2 HC2 HK2 HCb
    obtain ⟨w4, hw4⟩ : ∃ w4, w3.alloc (entO x A7 k7) = w4 := ⟨_, rfl⟩
    have hb4 : Below w3.heap.size w3 w4 := by rw [← hw4]; exact (Below.refl _ _).alloc (Nat.le_refl _) _
    have HY4 : Hid (EntAt w4 w3.heap.size x A7 k7) := Lib.hid (by rw [← hw4]; exact World.alloc_heap_new w3 _)
    have HJ4 := Lib.hid (HJ3.out.below hb4)
    have HT4 := Lib.hid (Kd.R_below HT3.out hb4)
    unfold entO at hw4
    rw [hw4]
    clear hw4 hb4 HJ3 HT3
    obtain ⟨y0, y1, y2, y3, y4, y5, y6, y7, y8, y9⟩ := HY4.out.c
    obtain ⟨q, hq⟩ : ∃ q, w3.heap.size = q := ⟨_, rfl⟩
    rw [hq] at HY4 y0 y1 y2 y3 y4 y5 y6 y7 y8 y9 ⊢
    clear hq
    go_upto_region 10 with (at_builtin; go_must (refine ER.push_ev (w := w4) (x := x) (Au := A7) (cu := k7) HJ4.out.ents HT4.out rfl (.tmp 40) (.tmp 42) rfl rfl rfl HJ4.out.sz (by have := HD3.out; omega) ?_; intro v5 w5 hr5 hb5 hg5; have HL5 := Lib.hid hr5; obtain ⟨hj5, hi5, hbl5, hz5⟩ := HJ4.out.putL hg5 hr5; have HJA5 := Lib.hid hj5; have HI5 := Lib.hid hi5; have HB5 := Lib.hid hbl5; have HZ5 := Lib.hid hz5; obtain ⟨A5, k5, rfl, _, _⟩ := ER.C hr5; clear hr5 hb5 hg5 hj5 hi5 hbl5 hz5))
    clear y0 y1 y2 y3 y4 y5 y6 y7 y8 y9 HY4 HT4
    obtain ⟨es, hes⟩ : ∃ es, endsE 0 done = es := ⟨_, rfl⟩
    have hesl : es.length = done.length := by rw [← hes]; exact endsE_length 0 done
    have hen := HEN.out
    rw [hes] at HI5 hen
    have HEN2 := Lib.hid hen
    have hel : es.length + 1 ≤ 4194304 := by have := HD3.out; omega
    have HEL := Lib.hid hel
    obtain ⟨AE, kE, rfl, _, _⟩ := IR.len HI5.out
    have c1 := HJA5.out.c1
    have HJ0 := Lib.hid HJ4.out.j0
    clear hes hesl hen hel HJ4 HEN
    go_wp2_with (at_builtin; go_must (refine IR.push_ev (w := w5) HI5.out rfl (.tmp 49) (.tmp 51) rfl rfl rfl HZ5.out HEL.out ?_; intro v6 w6 hr6 hb6 hg6; have hjg := RJAt.grown HJA5.out HI5.out hg6; have c6 := hjg.c1; have f6 := hjg.f 1; rw [← HEN2.out] at hr6; have HJ6 := Lib.hid (RJo.putE HJA5.out HI5.out HL5.out HB5.out HZ5.out HJ0.out hg6 hr6); obtain ⟨A6, k6, rfl, _, _⟩ := IR.len hr6; clear hr6 hb6 hg6 hjg))
    go_roundg (suf.length + 1)
    case measure => rw [hg]; simp
    case rel => exact ⟨done ++ [x], suf, _, _, rfl, by rw [HP2.out], rfl, by rw [HP2.out]; exact HSL.out, HDL.out, HX2, Lib.hid (by have h := HJ6.out; rw [show (done ++ [x]).length = done.length + 1 by simp] at h; exact h)⟩
end Go.Proofs.Ytmbnjgnmblgjoaa.Man
end
section
namespace Go.Proofs.Ytmbnjgnmblgjoaa.Man
open Go.RowKit Go.Proofs.YtmbnjgnmblgjoaaW.PrintWords Go.Proofs.YtmbnjgnmblgjoaaW.PrintLast Go.Proofs.YtmbnjgnmblgjoaaW.PrintMore
set_option linter.unusedVariables false
set_option linter.unusedSimpArgs false
set_option maxRecDepth 100000
theorem RJS.made {w w' : World} {base J B : Nat} {vE v' : Value} {es b : List Int} {s m : Int} (hb : base ≤ w.heap.size) (hJ : w.heap.size ≤ J) (hj : RJAt w' J B vE) (he : IR w' w.heap.size vE es) (hd : RefS w' base B v' b s m) : RJS w' base J B vE v' es b s m :=
 ⟨hj, IR.len he, fun k hk => ⟨by have := R_ge he k hk; omega, R_typ he k hk⟩, hd, by omega⟩
section
variable {w w1 w2 : World} {base J D : Nat} {vE v : Value} {es b : List Int} {s m : Int}
set_option maxHeartbeats 4000000 in
theorem rjcrash_is (h : RJS w base J D vE v es b s m) (k : Int) (hk0 : 0 ≤ k) (hk1 : k ≤ 9223372036854775807) (hB : areBytesN b = true) {xs : List K.S26} {r : List Int} (hL : LogOf (crL b s k) xs r) :
 Calls Try.prog 82 #[.pointer (some ⟨J, 0, none⟩), .int .i64 k] w fun e w' => ∃ J' vE' vL' v', e = .returned (.tuple #[.pointer (some ⟨J', 0, none⟩), vL', .int .i64 0]) ∧ w.heap.size ≤ J' ∧ RJS w' base J' D vE' v' (endsE 0 xs) (flatE xs) ((flatE xs).length : Int) m ∧ ER w' w.heap.size vL' xs ∧ DStep w w' D v v' := by
 have c0 := h.jat.c0
 have hjb := h.lt
 have hjg := h.jge
 have hE : crE k = 0 := by unfold crE; rw [if_neg (by omega)]
 have hB2 : areBytesN (crL b s k) = true := by unfold crL; rw [if_neg (by omega)]; exact bytes_take hB _
 have hC := refCrash_any h.disk k hk1
 rw [hE] at hC
 have HC := Lib.hid hC
 have HL := Lib.hid hL
 have HB := Lib.hid hB2
 have H := Lib.hid h
 obtain ⟨bb, hbb⟩ : ∃ bb, crL b s k = bb := ⟨_, rfl⟩
 rw [hbb] at HC HL HB
 clear h hE hC hL hB2 hbb
 go_enter Try.func82, Try.ntmps82
 go_wp2_with (first
  | (go_at_call 34; refine HC.out.mono ?_; rintro e w1 ⟨rfl, v1, hd, hs⟩; have c1 := (H.out.acted hs hd).jat.c0; have HD1 := Lib.hid hd; have HS1 := Lib.hid hs; clear hd hs)
  | (go_at_call 80; refine (rjopen_is HD1.out HB.out HL.out).mono ?_; rintro e w2 ⟨J2, vE2, vL2, v2, rfl, hJ, hj, he, hll, hd, hs⟩; obtain ⟨AL, cL, rfl, _, _⟩ := ER.C hll; have HJ2 := Lib.hid (RJS.made (base := base) (by have := HS1.out.size; omega) hJ hj he hd); have HX2 := Lib.hid (Kd.R_lower hll HS1.out.size); have HST := Lib.hid (HS1.out.then_ hs); have HJZ : Hid (w.heap.size ≤ J2) := Lib.hid (Nat.le_trans HS1.out.size hJ); clear hj he hll hd hs hJ))
 go_ret3
 exact ⟨J2, _, _, v2, rfl, HJZ.out, HJ2.out, HX2.out, HST.out⟩
end
end Go.Proofs.Ytmbnjgnmblgjoaa.Man
end
section
namespace Go.Proofs.Ytmbnjgnmblgjoaa.Man
open Go.RowKit Go.Proofs.YtmbnjgnmblgjoaaW.PrintWords Go.Proofs.YtmbnjgnmblgjoaaW.PrintLast Go.Proofs.YtmbnjgnmblgjoaaW.PrintMore
set_option linter.unusedVariables false
set_option linter.unusedSimpArgs false
set_option maxRecDepth 100000
section
variable {w w1 w2 : World} {base J D : Nat} {vE v : Value} {es b : List Int} {s m : Int}
theorem jcut_bad (h : JS w base J D vE v es b s m) (n : Int) (hn : n < 0 ∨ (es.length : Int) < n) : Calls Try.prog 83 #[.pointer (some ⟨J, 0, none⟩), .int .i64 n] w fun e w' => e = .returned (.int .i64 1) ∧ w = w' := by
 have c1 := h.jat.c1
 obtain ⟨A, c, rfl, hc, hC⟩ := h.row
 have H := Lib.hid h
 clear h hC
 rcases hn with hn | hn
 · go_enter Try.func83, Try.ntmps83
   go_wp2_with (go_at_call 137; refine (jnone_is H.out).mono ?_; rintro e w' ⟨rfl, rfl⟩)
   go_ret
   exact ⟨rfl, rfl⟩
 · have h0 : ¬ n < 0 := by omega
   go_enter Try.func83, Try.ntmps83
   go_wp2_with (go_at_call 137; refine (jnone_is H.out).mono ?_; rintro e w' ⟨rfl, rfl⟩)
   go_ret
   exact ⟨rfl, rfl⟩
theorem int_cut (A : Option Addr) (l c n : Nat) (hn : n ≤ c) (hc : n ≤ 9223372036854775807) : ∀ W : World, (Instr.slice 42 (.slice A l c) none (some (.int .i64 (n : Int))) (some (.int .i64 (n : Int)))).run Try.prog W = .ok (.slice A n n) W := by
 intro W
 obtain ⟨i0, hi0, hz0, hs0, hb0⟩ := info_parts info_int
 have hel : Try.prog.elem 42 = 3 := by simp [Program.elem, Try.underlying42]
 have hu : Try.prog.underlying 42 = some (.slice (Try.prog.elem 42)) := by rw [hel]; exact Try.underlying42
 have ha : (A.map fun x => x.add 0) = A := by cases A <;> simp [Addr.add]
 rw [run_slice_hm W 42 A l c hu .i64 .i64 (n : Int) (n : Int) (by omega) (by omega) (by omega), hel]
 simp [sizeOf, typeInfo, hi0, sliced, Result.andThen, ha]
theorem JS.cutE {A : Option Addr} {c n : Nat} (h : JS w base J D (.slice A es.length c) v es b s m) (hn : n ≤ es.length) : JS (w.setCell ⟨J, 1, none⟩ (.slice A n n)) base J D (.slice A n n) v (es.take n) b s m := by
 have hne : ∀ k, (Value.slice A es.length c).ownBlock = some k → k ≠ J := fun k hk e => by
  obtain ⟨_, cs, hc⟩ := h.typ k hk
  subst e
  rw [show w.heap[k]? = _ from h.jat] at hc
  cases hc
 obtain ⟨A', c', e, hc, hC⟩ := h.row
 cases e
 have hl : (es.take n).length = n := by rw [List.length_take]; omega
 have hC2 := Kd.C_take hC hn
 rw [hl] at hC2
 refine ⟨h.jat.put1 _, ⟨A, n, by rw [hl], by omega, ?_⟩, fun k hk => (fun (hk2 : (Value.slice A es.length c).ownBlock = some k) => ⟨(h.typ k hk2).1, by rw [Below.heap_setCell _ _ _ _ (show k ≠ J from hne k hk2)]; exact (h.typ k hk2).2⟩) (by cases A <;> exact hk), disk_store h.disk h.neD h.neV, h.jge⟩
 rw [hl]
 exact C_moveK hC2 (fun ad e => Below.heap_setCell _ _ _ _ (hne _ (by rw [e]; rfl)))
set_option maxHeartbeats 8000000 in
theorem jcut_is (h : JS w base J D vE v es b s m) (n a : Nat) (hn : n ≤ es.length) (ha : (n = 0 ∧ a = 0) ∨ ∃ k, n = k + 1 ∧ es.getD k 0 = (a : Int)) (hab : a ≤ b.length) : Calls Try.prog 83 #[.pointer (some ⟨J, 0, none⟩), .int .i64 (n : Int)] w fun e w' => e = .returned (.int .i64 0) ∧ ∃ vE' v', JS w' base J D vE' v' (es.take n) (b.take a) a m ∧ JStep w w' J D v v' vE vE' := by
 have c1 := h.jat.c1
 have f1 := h.jat.f 1
 obtain ⟨A, c, rfl, hc, hC⟩ := h.row
 have hl63 : es.length ≤ 9223372036854775807 := hC.2.1
 have hcut := int_cut A es.length c n (by omega) (by omega)
 have hJ1 := h.cutE hn
 have d0 := hJ1.jat.c0
 have HO := Lib.hid (cut_is hJ1.disk a hab)
 have HJ1 := Lib.hid hJ1
 have H := Lib.hid h
 have HST : Hid (JStep w (w.setCell ⟨J, 1, none⟩ (.slice A n n)) J D v v (.slice A es.length c) (.slice A n n)) := Lib.hid ⟨rfl, rfl, rfl, by simp [World.setCell], fun k hk h1 _ _ => Below.heap_setCell _ _ _ _ (show k ≠ J from h1), .inl rfl, .inl (by cases A <;> rfl)⟩
 have hn' : ¬ (es.length : Int) < (n : Int) := by omega
 rcases ha with ⟨rfl, rfl⟩ | ⟨k, rfl, hk⟩
 · clear h hC hJ1
   go_enter Try.func83, Try.ntmps83
   go_wp2_with (first
    | (go_at_call 137; refine (jnone_is H.out).mono ?_; rintro e w' ⟨rfl, rfl⟩)
    | (go_at_call 35; refine HO.out.mono ?_; rintro e w2 ⟨rfl, v2, hd, st⟩; have HD2 := Lib.hid hd; have HS2 := Lib.hid st; clear hd st))
   go_ret
   exact ⟨rfl, _, v2, HJ1.out.acted HS2.out HD2.out, HST.out.trans (JStep.of_disk J _ HS2.out)⟩
 · obtain ⟨ad, e1, hcell⟩ := Kd.at_int hC (k : Int) (by omega) (by omega)
   subst e1
   have hrd : rd es (k : Int) = es.getD k 0 := rfl
   rw [hrd, Int.toNat_natCast, hk] at hcell
   have hw : IntKind.i64.wrap (((k + 1 : Nat) : Int) - 1) = (k : Int) := by rw [IntKind.wrap_i64]; omega
   have hlt : (k : Int) < es.length := by omega
   have hw2 : IntKind.i64.wrap ((k : Int) + 1 - 1) = (k : Int) := by rw [IntKind.wrap_i64]; omega
   clear h hC hJ1 hrd hk
   go_enter Try.func83, Try.ntmps83
   go_wp2_with (first
    | (go_at_call 137; refine (jnone_is H.out).mono ?_; rintro e w' ⟨rfl, rfl⟩)
    | (go_at_call 35; refine HO.out.mono ?_; rintro e w2 ⟨rfl, v2, hd, st⟩; have HD2 := Lib.hid hd; have HS2 := Lib.hid st; clear hd st))
   go_ret
   exact ⟨rfl, _, v2, HJ1.out.acted HS2.out HD2.out, HST.out.trans (JStep.of_disk J _ HS2.out)⟩
theorem jdisk_is (h : JS w base J D vE v es b s m) : Calls Try.prog 86 #[.pointer (some ⟨J, 0, none⟩)] w fun e w' => e = .returned (.pointer (some ⟨D, 0, none⟩)) ∧ w = w' := by
 have c0 := h.jat.c0
 have H := Lib.hid h
 clear h
 go_enter Try.func86, Try.ntmps86
 go_wp2_with (go_at_call 137; refine (jnone_is H.out).mono ?_; rintro e w' ⟨rfl, rfl⟩)
 go_ret
 exact ⟨rfl, rfl⟩
end
end Go.Proofs.Ytmbnjgnmblgjoaa.Man
end
section
namespace Go.Proofs.Ytmbnjgnmblgjoaa.Man
open Go.RowKit Go.Proofs.YtmbnjgnmblgjoaaW.PrintWords Go.Proofs.YtmbnjgnmblgjoaaW.PrintLast Go.Proofs.YtmbnjgnmblgjoaaW.PrintMore
set_option linter.unusedVariables false
set_option linter.unusedSimpArgs false
set_option maxRecDepth 100000
theorem ref_store {w : World} {base B J j : Nat} {v u : Value} {xs : List Int} {s m : Int} (h : RefS w base B v xs s m) (h1 : J ≠ B) (h2 : some J ≠ v.ownBlock) : RefS (w.setCell ⟨J, j, none⟩ u) base B v xs s m :=
 { h with
  cells := h.cells.move (Below.heap_setCell _ _ _ _ (by show B ≠ J; omega))
  row := h.row.move fun k hk => Below.heap_setCell _ _ _ _ (fun e => h2 (by rw [hk, e])) }
theorem RJS.storeE {w : World} {base J D n0 : Nat} {vE v vS : Value} {es zs b : List Int} {s m : Int} (h : RJS w base J D vE v es b s m) (hI : IR w n0 vS zs) (hn : J < n0) (hb : base ≤ n0) : RJS (w.setCell ⟨J, 1, none⟩ vS) base J D vS v zs b s m := by
 have hI2 : IR (w.setCell ⟨J, 1, none⟩ vS) n0 vS zs := Kd.R_mono (Kd.R_grown (Kd.R_bound hI) (grownBy_set w J 1 vS (World.grownBy.refl w _)) (fun k hk e => by cases e; have := hk.2.1; omega)) (fun _ _ => trivial)
 exact ⟨h.jat.put1 vS, IR.len hI2, fun k hk => ⟨by have := R_ge hI2 k hk; omega, R_typ hI2 k hk⟩, ref_store h.disk h.neD h.neV, h.jge⟩
theorem ir_empty (W : World) (base : Nat) (hb : base ≤ W.heap.size) : IR (W.alloc (.cells #[] 3)) base (.slice (some ⟨W.heap.size, 0, none⟩) 0 0) [] :=
 Kd.R_of_own (by have := own_lit W base 3 .i64 [] hb (by simp); simpa [nums, encs] using this) (fun _ _ => trivial)
theorem IR.append_ev {ops : Array Oper} {rest : List Oper} {o : Oper} {a : Act} {Q : Exit → Act → World → Prop} {w : World} {base : Nat} {v : Value} {xs ys : List Int} {A : Option Addr} {m c : Nat}
 (h : IR w base v xs) (HR : Kd.C (Kd.int .i64) w A m ys) (hgd : o.guard = none) (s x : Operand) (ho : o.op = .call { callee := .builtin .append, args := #[s, x], argTypes := #[42, 42] })
 (hs : a.eval s = v) (hx : a.eval x = .slice A m c) (hbase : base ≤ w.heap.size) (hl : xs.length + m ≤ 4194304)
 (k : ∀ v1 w1, IR w1 base v1 (xs ++ ys) → Below base w w1 → wpList Try.prog ops Q rest (a.put o.dst v1) w1) : wpList Try.prog ops Q (o :: rest) a w :=
 Kd.R_append_rows (Kd.int .i64) (Rr := (Kd.int .i64).K w) (w0 := w) base hgd s x 42 3 (.int .i64 0) 8 ho Try.underlying42 info_int rfl (by decide) (by omega) v xs ys A m c (fun _ => True) (fun _ => False) hs hx h HR (fun _ _ h => h) (fun _ h => h.elim) (fun _ _ => trivial) (Below.refl _ _) hbase (by omega)
  (fun v1 w1 h1 h2 h3 h4 => k v1 w1 h1 h2)
theorem ends_new {w : World} {n0 : Nat} {v : Value} {zs : List Int} (h : IR w n0 v zs) : v.ownBlock = none ∨ ∃ b, v.ownBlock = some b ∧ n0 ≤ b := by
 cases hv : v.ownBlock with
 | none => exact .inl rfl
 | some r => exact .inr ⟨r, rfl, R_ge h r hv⟩
theorem int_to (A : Option Addr) (l c n : Nat) (hn : n ≤ l) (hc : l ≤ c) : ∀ W : World, (Instr.slice 42 (.slice A l c) none (some (.int .i64 (n : Int))) none).run Try.prog W = .ok (.slice A n c) W := by
 obtain ⟨i0, hi0, hz0, hs0, hb0⟩ := info_parts info_int
 intro W
 have h := cut_to (P := Try.prog) 42 3 .i64 Try.underlying42 hi0 A l c (n : Int) (by omega) (by omega) hc W
 rw [h, Int.toNat_natCast]
section
variable {w w1 w2 : World} {base J D : Nat} {vE v : Value} {es b : List Int} {s m : Int}
theorem rjcut_bad (h : RJS w base J D vE v es b s m) (n : Int) (hn : n < 0 ∨ (es.length : Int) < n) : Calls Try.prog 84 #[.pointer (some ⟨J, 0, none⟩), .int .i64 n] w fun e w' => e = .returned (.int .i64 1) ∧ w = w' := by
 have c1 := h.jat.c1
 obtain ⟨A, c, rfl, hc, hC⟩ := h.row
 clear h hC
 rcases hn with hn | hn
 · go_enter Try.func84, Try.ntmps84
   go_wp2
   go_ret
   exact ⟨rfl, rfl⟩
 · have h0 : ¬ n < 0 := by omega
   go_enter Try.func84, Try.ntmps84
   go_wp2
   go_ret
   exact ⟨rfl, rfl⟩
set_option maxHeartbeats 8000000 in
theorem rjcut_is (h : RJS w base J D vE v es b s m) (hbase : base ≤ w.heap.size) (hel : es.length ≤ 1048576) (n a : Nat) (hn : n ≤ es.length) (ha : (n = 0 ∧ a = 0) ∨ ∃ k, n = k + 1 ∧ es.getD k 0 = (a : Int)) (hab : a ≤ b.length) : Calls Try.prog 84 #[.pointer (some ⟨J, 0, none⟩), .int .i64 (n : Int)] w fun e w' => e = .returned (.int .i64 0) ∧ ∃ vE' v', RJS w' base J D vE' v' (es.take n) (b.take a) a m ∧ JStep w w' J D v v' vE vE' := by
 have c0 := h.jat.c0
 have c1 := h.jat.c1
 have hjl := h.lt
 obtain ⟨A, c, rfl, hc, hC⟩ := h.row
 have hcut := int_to A es.length c n hn hc
 have hb0 : Below w.heap.size w (w.alloc (.cells #[] 3)) := (Below.refl _ _).alloc (Nat.le_refl _) _
 have hI0 := ir_empty w w.heap.size (Nat.le_refl _)
 have hl : (es.take n).length = n := by rw [List.length_take]; omega
 have hC2 := Kd.C_below (Kd.C_take hC hn) hb0
 rw [hl] at hC2
 have hstep : ∀ (w1 : World) (vS : Value), IR w1 w.heap.size vS (es.take n) → Below w.heap.size w w1 →
  RJS (w1.setCell ⟨J, 1, none⟩ vS) base J D vS v (es.take n) b s m ∧ JStep w (w1.setCell ⟨J, 1, none⟩ vS) J D v v (.slice A es.length c) vS := fun w1 vS hI hb =>
  ⟨(h.below hb (Nat.le_refl _)).storeE hI hjl hbase, ⟨hb.os, hb.tape, hb.output, by have := hb.size; simpa [World.setCell] using this, fun k hk h1 _ _ => (Below.heap_setCell _ _ _ _ (show k ≠ J from h1)).trans (hb.block k hk), .inl rfl, .inr (ends_new hI)⟩⟩
 have HSTP := Lib.hid hstep
 have HJB := Lib.hid (fun (W : World) (hb : Below w.heap.size w W) => (h.below hb (Nat.le_refl _)).jat.f 1)
 have HI0 := Lib.hid hI0
 have HC2 := Lib.hid hC2
 have HB0 := Lib.hid hb0
 obtain ⟨zs, hzs⟩ : ∃ zs, es.take n = zs := ⟨_, rfl⟩
 rw [hzs] at HSTP HC2 hl
 rw [hzs]
 have HZL : Hid (zs.length = n) := Lib.hid hl
 have hn' : ¬ (es.length : Int) < (n : Int) := by omega
 have hn2 : n ≤ 1048576 := by omega
 clear hzs hb0 hI0 hC2 hstep hl
 rcases ha with ⟨rfl, rfl⟩ | ⟨k, rfl, hk⟩
 · clear h hC
   go_enter Try.func84, Try.ntmps84
   go_upto_region 7 with (at_builtin; go_must (refine IR.append_ev (w := w.alloc (.cells #[] 3)) HI0.out HC2.out rfl (.tmp 28) (.tmp 34) rfl rfl rfl HB0.out.size (by simp only [List.length_nil]; omega) ?_; intro v1 w1 hr1 hb1; rw [List.nil_append] at hr1; have f1 := HJB.out w1 (HB0.out.trans hb1); obtain ⟨HS1, HT1⟩ := HSTP.out _ _ hr1 (HB0.out.trans hb1); have HS1 := Lib.hid HS1; have HT1 := Lib.hid HT1; have c1' := (Below.trans HB0.out hb1).cell (p := ⟨J, 1, none⟩) hjl; obtain ⟨A1, k1, rfl, _, _⟩ := IR.len hr1; clear hr1 hb1))
   have d0 := HS1.out.jat.c0
   have HO := Lib.hid (refCut_is HS1.out.disk 0 hab)
   go_wp2_with (go_at_call 36; refine HO.out.mono ?_; rintro e w2 ⟨rfl, v2, hd, st⟩; have HD2 := Lib.hid hd; have HS2 := Lib.hid st; clear hd st)
   go_ret
   exact ⟨rfl, _, v2, HS1.out.acted HS2.out HD2.out, HT1.out.trans (JStep.of_disk J _ HS2.out)⟩
 · obtain ⟨ad, e1, hcell⟩ := Kd.at_int hC (k : Int) (by omega) (by omega)
   subst e1
   have hrd : rd es (k : Int) = es.getD k 0 := rfl
   rw [hrd, Int.toNat_natCast, hk] at hcell
   have hw : IntKind.i64.wrap (((k + 1 : Nat) : Int) - 1) = (k : Int) := by rw [IntKind.wrap_i64]; omega
   have hlt : (k : Int) < es.length := by omega
   have hw2 : IntKind.i64.wrap ((k : Int) + 1 - 1) = (k : Int) := by rw [IntKind.wrap_i64]; omega
   clear hrd hk
   clear h hC
   go_enter Try.func84, Try.ntmps84
   go_upto_region 7 with (at_builtin; go_must (refine IR.append_ev (w := w.alloc (.cells #[] 3)) HI0.out HC2.out rfl (.tmp 28) (.tmp 34) rfl rfl rfl HB0.out.size (by simp only [List.length_nil]; omega) ?_; intro v1 w1 hr1 hb1; rw [List.nil_append] at hr1; have f1 := HJB.out w1 (HB0.out.trans hb1); obtain ⟨HS1, HT1⟩ := HSTP.out _ _ hr1 (HB0.out.trans hb1); have HS1 := Lib.hid HS1; have HT1 := Lib.hid HT1; have c1' := (Below.trans HB0.out hb1).cell (p := ⟨J, 1, none⟩) hjl; obtain ⟨A1, k1, rfl, _, _⟩ := IR.len hr1; clear hr1 hb1))
   have d0 := HS1.out.jat.c0
   have HO := Lib.hid (refCut_is HS1.out.disk a hab)
   go_wp2_with (go_at_call 36; refine HO.out.mono ?_; rintro e w2 ⟨rfl, v2, hd, st⟩; have HD2 := Lib.hid hd; have HS2 := Lib.hid st; clear hd st)
   go_ret
   exact ⟨rfl, _, v2, HS1.out.acted HS2.out HD2.out, HT1.out.trans (JStep.of_disk J _ HS2.out)⟩
end
end Go.Proofs.Ytmbnjgnmblgjoaa.Man
end
section
namespace Go.Proofs.Ytmbnjgnmblgjoaa.Man
open Go.RowKit Go.Proofs.YtmbnjgnmblgjoaaW.PrintWords Go.Proofs.YtmbnjgnmblgjoaaW.PrintLast Go.Proofs.YtmbnjgnmblgjoaaW.PrintMore
set_option linter.unusedVariables false
set_option linter.unusedSimpArgs false
set_option maxRecDepth 100000
theorem wrap_two (p q : Nat) (h : p ≤ 262144) (h2 : q ≤ 137438953472) : wrap64 ((p : Int) + (q : Int)) = (p : Int) + (q : Int) := by unfold wrap64; omega
set_option maxHeartbeats 16000000 in
theorem rjappend_is {w : World} {base J D : Nat} {vE v : Value} {es b : List Int} {s m : Int} (h : RJS w base J D vE v es b s m) (A0 : Option Addr) (c0 : Nat) (l : List K.S26) (hC : Kd.C K.k26 w A0 l.length l) (hc : l.length ≤ c0) (hl : l.length ≤ 1048576) (hes : es.length ≤ 1048576) (hbase : base ≤ w.heap.size) :
 Calls Try.prog 81 #[.pointer (some ⟨J, 0, none⟩), .slice A0 l.length c0] w fun e w' => e = .returned (.int .i64 (jappE m b l)) ∧ ∃ vE' v', RJS w' base J D vE' v' (jappEs m b es l) (jappL m b l) s m ∧ JStep w w' J D v v' vE vE' := by
 obtain ⟨E, hE⟩ : ∃ E, jErr l = E := ⟨_, rfl⟩
 obtain ⟨R, hR⟩ : ∃ R, jappE m b l = R := ⟨_, rfl⟩
 obtain ⟨RE, hRE⟩ : ∃ RE, jappEs m b es l = RE := ⟨_, rfl⟩
 obtain ⟨RL, hRL⟩ : ∃ RL, jappL m b l = RL := ⟨_, rfl⟩
 rw [hR, hRE, hRL]
 have HE := Lib.hid hE
 have HR := Lib.hid hR
 have HRE := Lib.hid hRE
 have HRL := Lib.hid hRL
 have hJw := h.lt
 have hjb := h.jge
 have hbl : b.length ≤ 262144 := by have := h.disk.len; have := h.disk.m1; omega
 obtain ⟨AV, cV, rfl, _⟩ := h.disk.row.len
 obtain ⟨AE, cE, rfl, _, _⟩ := h.row
 have H := Lib.hid h
 have HC := Lib.hid hC
 clear hE hR hRE hRL h hC
 go_enter Try.func81, Try.ntmps81
 go_wp2
 go_loopg [5, 6, 7] l.length (fun g s5 s6 s7 wr => ∃ (i : Nat) (vA vS : Value), vA = s5 ∧ vS = s6 ∧ s7 = .int .i64 i ∧ i ≤ l.length ∧ g = l.length - i ∧ Hid (jErr (l.drop i) = E) ∧ Hid (∀ x ∈ l.take i, Fine x) ∧ Hid (BR wr w.heap.size vA (flatE (l.take i))) ∧ Hid (IR wr w.heap.size vS (endsE b.length (l.take i))) ∧ Hid (Below w.heap.size w wr))
 case atStart => exact ⟨0, _, _, rfl, rfl, rfl, Nat.zero_le _, rfl, Lib.hid (by rw [List.drop_zero]; exact HE.out), Lib.hid (by intro x hx; simp at hx), Lib.hid (Kd.R_nil _ _ _ _ _), Lib.hid (Kd.R_nil _ _ _ _ _), Lib.hid (Below.refl _ _)⟩
 case round =>
  obtain ⟨i, vA, vS, rfl, rfl, rfl, hi, hg, HEI, HF, HA, HS, HB⟩ := hrel
  obtain ⟨A5, c5, rfl, _, _⟩ := BR.len HA.out
  obtain ⟨zs, hzs⟩ : ∃ zs, endsE b.length (l.take i) = zs := ⟨_, rfl⟩
  have hzl : zs.length ≤ 1048576 := by rw [← hzs, endsE_length, List.length_take]; omega
  rw [hzs] at HS
  obtain ⟨A6, c6, rfl, _, _⟩ := IR.len HS.out
  have HZS := Lib.hid hzs
  clear hzs
  by_cases hlt : i < l.length
  · have hCi := Kd.C_below HC.out HB.out
    obtain ⟨ad, A8, c8, ea, a0, a1, a2, a3, a4, a5, a6, a7, a8, a9, l8, g8⟩ := K.at_T26 hCi (i : Int) (by omega) (by omega)
    subst ea
    have hrd : K.rd_T26 l (i : Int) = l[i] := by unfold K.rd_T26; rw [Int.toNat_natCast, List.getD_eq_getElem?_getD, List.getElem?_eq_getElem hlt]; rfl
    have hdr : l.drop i = l[i] :: l.drop (i + 1) := List.drop_eq_getElem_cons hlt
    have htk : l.take (i + 1) = l.take i ++ [l[i]] := List.take_succ_eq_append_getElem hlt
    have hEI := HEI.out
    rw [hdr, jErr] at hEI
    rw [hrd] at a0 a1 a2 a3 a4 a5 a6 a7 a8 a9 l8 g8
    rw [Int.toNat_natCast] at a0 a1 a2 a3 a4 a5 a6 a7 a8 a9
    generalize l[i] = x at hEI htk a0 a1 a2 a3 a4 a5 a6 a7 a8 a9 l8 g8
    have HTK := Lib.hid htk
    clear hrd hdr HEI hCi htk
    have HD := Lib.hid (rputEntry_is x A8 c8 wr g8 l8)
    have HEI := Lib.hid hEI
    clear g8 hEI
    by_cases h0 : entryE x = 0
    · have hp : putEntryF x = (entryB x, 0) := put_ent h0
      have hD := HD.out
      rw [hp, h0] at hD
      have HD2 := Lib.hid hD
      clear HD hD hp
      obtain ⟨y, hy⟩ : ∃ y, entryB x = y := ⟨_, rfl⟩
      have hyB : areBytesN y = true := by rw [← hy]; exact entryB_bytes x
      rw [hy] at HD2
      have HYB := Lib.hid hyB
      have HY := Lib.hid hy
      clear hyB hy
      go_upto_region 9 with (go_at_call 51; refine HD2.out.mono ?_; rintro e w2 ⟨v2, rfl, ⟨A2, k2, rfl, hC2⟩, hb⟩; have HC2 := Lib.hid hC2; have HB2 := Lib.hid hb; clear hb hC2)
      clear a0 a1 a2 a3 a4 a5 a6 a7 a8 a9 HD2
      have hQ := rwrap_is A2 k2 y w2 HC2.out HYB.out
      by_cases hbig : 65536 < y.length
      · have hw : wrapF y = ([], 2) := by unfold wrapF; rw [if_pos hbig]
        rw [hw] at hQ
        have hN : E = 2 := by rw [← HEI.out]; have : frameErr x = 2 := (by unfold frameErr; rw [if_pos h0, HY.out, hw]); rw [this]; rfl
        subst hN
        have hRE : R = 2 := by rw [← HR.out]; unfold jappE; rw [HE.out, if_neg (by decide)]
        have hRL : RL = b := by rw [← HRL.out]; unfold jappL; rw [HE.out, if_neg (by decide)]
        have hREs : RE = es := by rw [← HRE.out]; unfold jappEs; rw [HR.out, hRE, if_neg (by decide)]
        subst hRE hRL hREs
        have HQ := Lib.hid hQ
        clear hQ hw hbig h0
        go_wp2_with (go_at_call 119; refine HQ.out.mono ?_; rintro e w3 ⟨v3, rfl, hr, hb⟩; obtain ⟨A3, k3, rfl, _, _⟩ := BR.len hr; have HB3 := Lib.hid (HB.out.trans ((HB2.out.trans (hb.mono HB2.out.size)).mono HB.out.size)); clear hr hb)
        go_ret
        exact ⟨rfl, _, _, H.out.below HB3.out (Nat.le_refl _), JStep.of_below _ _ _ _ HB3.out⟩
      · have hw : wrapF y = (frameF y, 0) := by unfold wrapF; rw [if_neg hbig]
        rw [hw] at hQ
        have hfe : frameErr x = 0 := by unfold frameErr; rw [if_pos h0, HY.out, hw]
        have HN : Hid (jErr (l.drop (i + 1)) = E) := Lib.hid (by have := HEI.out; rwa [if_pos hfe] at this)
        have HF2 : Hid (∀ y ∈ l.take (i + 1), Fine y) := Lib.hid (by
         rw [HTK.out]
         intro y hy
         rcases List.mem_append.1 hy with hy | hy
         · exact HF.out y hy
         · rw [List.mem_singleton.1 hy]; exact frameErr_fine.1 hfe)
        obtain ⟨fl, hfl⟩ : ∃ fl, flatE (l.take i) = fl := ⟨_, rfl⟩
        obtain ⟨al, hal⟩ : ∃ al, flatE (l.take (i + 1)) = al := ⟨_, rfl⟩
        have hal2 : al = fl ++ entF x := by rw [← hal, ← hfl, HTK.out, flatE_snoc]
        have hall : al.length ≤ 137438953472 := by
         have h1 := flat_len_fine HF2.out
         rw [hal, List.length_take] at h1
         have : min (i + 1) l.length ≤ 1048576 := by omega
         have := Nat.mul_le_mul_right 65543 this
         omega
        have hfll : fl.length + (entF x).length ≤ 137438953472 := by rw [hal2, List.length_append] at hall; exact hall
        have hfx0 : entF x = frameF y := by unfold entF; rw [HY.out]
        rw [hfl] at HA ⊢
        have HAL := Lib.hid hal
        have HAL2 := Lib.hid hal2.symm
        obtain ⟨fx, hfx⟩ : ∃ fx, entF x = fx := ⟨_, rfl⟩
        rw [← hfx0, hfx] at hQ
        rw [hfx] at HAL2 hfll
        have HQ := Lib.hid hQ
        clear hQ HEI h0 hal hal2 hfl hfx hfx0 hw hfe hbig
        go_upto_region 13 with (first
         | (go_at_call 119; refine HQ.out.mono ?_; rintro e w3 ⟨v3, rfl, hr, hb⟩; obtain ⟨A3, k3, rfl, _, hC3⟩ := BR.len hr; have HC3 := Lib.hid hC3; have HB3 := Lib.hid (HB2.out.trans (hb.mono HB2.out.size)); clear hr hb hC3)
         | (at_builtin; refine BR.append_ev2 (w := w3) (base := w.heap.size) (Kd.R_below HA.out HB3.out) HC3.out rfl (.tmp 37) (.tmp 38) rfl rfl rfl (Nat.le_trans HB.out.size HB3.out.size) (by omega) ?_; intro v4 w4 hr4 hb4 hg4; rw [HAL2.out] at hr4; have HR4 := Lib.hid hr4; obtain ⟨A4, k4, rfl, _, _⟩ := BR.len hr4; have HB4 := Lib.hid ((HB.out.trans (HB3.out.mono HB.out.size)).trans hb4); have HG4 := Lib.hid hg4; clear hr4 hb4 hg4))
        have HS4 : Hid (IR w4 w.heap.size (.slice A6 zs.length c6) zs) := Lib.hid (R_typed (Kd.R_below HS.out HB3.out) (t := 5) (by decide) HG4.out (R_typ (Kd.R_below HA.out HB3.out)))
        have hJ4 := H.out.below HB4.out (Nat.le_refl _)
        have d0 := hJ4.jat.c0
        have d1 := hJ4.disk.cells.c0
        have hwr : wrap64 ((b.length : Int) + (al.length : Int)) = (b.length : Int) + (al.length : Int) := wrap_two _ _ hbl hall
        clear hJ4 HA HS HG4 HQ HC2 HC3 HB2 HB3
        go_wp2_with (at_builtin; go_must (refine IR.push_ev (w := w4) HS4.out rfl (.tmp 40) (.tmp 52) rfl rfl rfl HB4.out.size (by omega) ?_; intro v5 w5 hr5 hb5 hg5; have HI5 := Lib.hid hr5; have HR5 := Lib.hid (R_typed HR4.out (t := 3) (by decide) hg5 (R_typ HS4.out)); have HB5 := Lib.hid (HB4.out.trans hb5); clear hr5 hb5 hg5))
        go_roundg (l.length - (i + 1))
        case measure => omega
        case rel => exact ⟨i + 1, _, _, rfl, rfl, by go_num, by omega, rfl, HN, HF2, Lib.hid (by rw [HAL.out]; exact HR5.out), Lib.hid (by rw [HTK.out, endsE_snoc, HZS.out, ← HTK.out, HAL.out, Int.natCast_add]; exact HI5.out), HB5⟩
    · have hN : entryE x = E := by have := HEI.out; have hfe : frameErr x = entryE x := (by unfold frameErr; rw [if_neg h0]); rw [hfe, if_neg h0] at this; exact this
      have hD := HD.out
      rw [hN] at hD h0
      have hRE : R = E := by rw [← HR.out]; unfold jappE; rw [HE.out, if_neg h0]
      have hRL : RL = b := by rw [← HRL.out]; unfold jappL; rw [HE.out, if_neg h0]
      have hREs : RE = es := by rw [← HRE.out]; unfold jappEs; rw [HR.out, hRE, if_neg h0]
      subst hRE hRL hREs
      have HD2 := Lib.hid hD
      clear HD HEI hD hN
      go_wp2_with (go_at_call 51; refine HD2.out.mono ?_; rintro e w2 ⟨v2, rfl, ⟨A2, k2, rfl, hC2⟩, hb⟩; have HB2 := Lib.hid (HB.out.trans (hb.mono HB.out.size)); clear hb hC2)
      go_ret
      exact ⟨rfl, _, _, H.out.below HB2.out (Nat.le_refl _), JStep.of_below _ _ _ _ HB2.out⟩
  · obtain rfl : i = l.length := by omega
    have hE0 : E = 0 := by have := HEI.out; rw [List.drop_length] at this; exact this.symm
    subst hE0
    rw [List.take_length] at HA ⊢
    have hzs := HZS.out
    rw [List.take_length] at hzs
    have hRE : R = appE m b (flatE l) := by rw [← HR.out]; unfold jappE; rw [HE.out, if_pos rfl]
    have hRL : RL = appL m b (flatE l) := by rw [← HRL.out]; unfold jappL; rw [HE.out, if_pos rfl]
    have hREs : RE = if appE m b (flatE l) = 0 then es ++ zs else es := by rw [← HRE.out, ← hzs]; unfold jappEs; rw [HR.out, hRE]
    obtain ⟨A5', c5', e5, _, hC5⟩ := BR.len HA.out
    obtain ⟨fl, hfl⟩ : ∃ fl, flatE l = fl := ⟨_, rfl⟩
    rw [hfl] at HA hRE hRL hREs e5 hC5 ⊢
    cases e5
    have hJR := H.out.below HB.out (Nat.le_refl _)
    have d0 := hJR.jat.c0
    have HAP := Lib.hid (refAppend_any hJR.disk A5 c5 hC5)
    have HJR := Lib.hid hJR
    rw [← hRE, ← hRL] at HAP
    rw [← hRE] at hREs
    have HRZ := Lib.hid hREs
    clear hzs hRE hRL hREs hC5 hfl hJR
    by_cases hR0 : R = 0
    · have hz : RE = es ++ zs := by rw [HRZ.out, if_pos hR0]
      subst hR0
      have HRZ2 := Lib.hid hz
      clear HRZ hz
      go_upto_region 16 with (go_at_call 30; refine HAP.out.mono ?_; rintro e w2 ⟨rfl, v2, hd, hst⟩; have HJ2 := Lib.hid (HJR.out.acted hst hd); have HST := Lib.hid hst; clear hd hst)
      clear d0
      have c1 := HJ2.out.jat.c1
      have hjl2 := HJ2.out.lt
      have hsz2 : w.heap.size ≤ w2.heap.size := Nat.le_trans HB.out.size HST.out.size
      have HI2 : Hid (IR w2 w.heap.size (.slice A6 zs.length c6) zs) := Lib.hid (HST.out.R HS.out H.out.disk.cells.lt (fun k hk => (H.out.disk.row.block hk).2.1))
      obtain ⟨A7', c7', e7, _, hC7⟩ := IR.len HI2.out
      cases e7
      have HC7 := Lib.hid hC7
      clear hC7
      have hb0 : Below w2.heap.size w2 (w2.alloc (.cells #[] 3)) := (Below.refl _ _).alloc (Nat.le_refl _) _
      have HI0 := Lib.hid (ir_empty w2 w2.heap.size (Nat.le_refl _))
      obtain ⟨A', c', e', _, hCe⟩ := HJ2.out.row
      cases e'
      have HCe := Lib.hid (Kd.C_below hCe hb0)
      have HB0 := Lib.hid hb0
      clear hb0 hCe
      have HSTP := Lib.hid (fun (W : World) (vS : Value) (hI : IR W w2.heap.size vS (es ++ zs)) (hb : Below w2.heap.size w2 W) =>
       (show RJS (W.setCell ⟨J, 1, none⟩ vS) base J D vS v2 (es ++ zs) RL s m ∧ JStep w2 (W.setCell ⟨J, 1, none⟩ vS) J D v2 v2 (.slice AE es.length cE) vS from
        ⟨(HJ2.out.below hb (Nat.le_refl _)).storeE hI HJ2.out.lt (by omega), ⟨hb.os, hb.tape, hb.output, by have := hb.size; simpa [World.setCell] using this, fun k hk h1 _ _ => (Below.heap_setCell _ _ _ _ (show k ≠ J from h1)).trans (hb.block k hk), .inl rfl, .inr (ends_new hI)⟩⟩))
      have HJB := Lib.hid (fun (W : World) (hb : Below w2.heap.size w2 W) => (HJ2.out.below hb (Nat.le_refl _)).jat.f 1)
      have HJC := Lib.hid (fun (W : World) (hb : Below w2.heap.size w2 W) => (HJ2.out.below hb (Nat.le_refl _)).jat.c1)
      obtain ⟨ez, hez⟩ : ∃ ez, es ++ zs = ez := ⟨_, rfl⟩
      rw [hez] at HSTP HRZ2
      have HEZ := Lib.hid hez
      clear hez
      go_upto_region 17 with (first
       | (at_builtin; refine IR.append_ev (w := w2.alloc (.cells #[] 3)) HI0.out HCe.out rfl (.tmp 63) (.tmp 67) rfl rfl rfl HB0.out.size (by simp only [List.length_nil]; omega) ?_; intro v3 w3 hr3 hb3; rw [List.nil_append] at hr3; have HR3 := Lib.hid hr3; have HB3 := Lib.hid (HB0.out.trans hb3); obtain ⟨A3, k3, rfl, _, _⟩ := IR.len hr3; clear hr3 hb3)
       | (at_builtin; refine IR.append_ev (w := w3) HR3.out (Kd.C_below HC7.out HB3.out) rfl (.tmp 68) (.tmp 69) rfl rfl rfl HB3.out.size (by omega) ?_; intro v4 w4 hr4 hb4; rw [HEZ.out] at hr4; have f4 := HJB.out w4 (HB3.out.trans hb4); have c4 := HJC.out w4 (HB3.out.trans hb4); obtain ⟨HS4, HT4⟩ := HSTP.out _ _ hr4 (HB3.out.trans hb4); have HS4 := Lib.hid HS4; have HT4 := Lib.hid HT4; obtain ⟨A4, k4, rfl, _, _⟩ := IR.len hr4; clear hr4 hb4))
      go_wp2
      go_ret
      exact ⟨rfl, _, _, by rw [HRZ2.out]; exact HS4.out, ((JStep.of_below J D _ _ HB.out).trans (JStep.of_disk J _ HST.out)).trans HT4.out⟩
    · have hz : RE = es := by rw [HRZ.out, if_neg hR0]
      have HRZ2 := Lib.hid hz
      clear HRZ hz
      go_wp2_with (go_at_call 30; refine HAP.out.mono ?_; rintro e w2 ⟨rfl, v2, hd, hst⟩; have HJ2 := Lib.hid (HJR.out.acted hst hd); have HST := Lib.hid hst; clear hd hst)
      go_ret
      exact ⟨rfl, _, _, by rw [HRZ2.out]; exact HJ2.out, (JStep.of_below J D _ _ HB.out).trans (JStep.of_disk J _ HST.out)⟩
end Go.Proofs.Ytmbnjgnmblgjoaa.Man
end
section
namespace Go.Proofs.Ytmbnjgnmblgjoaa.Man
open Go.RowKit Go.Proofs.YtmbnjgnmblgjoaaW.PrintWords Go.Proofs.YtmbnjgnmblgjoaaW.PrintLast Go.Proofs.YtmbnjgnmblgjoaaW.PrintMore
set_option linter.unusedVariables false
set_option linter.unusedSimpArgs false
theorem sureR_spec (s : Int) : ∀ es : List Int, sureR s es ≤ es.length ∧ (∀ i, i < sureR s es → es.getD i 0 ≤ s) ∧ (sureR s es < es.length → s < es.getD (sureR s es) 0)
 | [] => ⟨Nat.le_refl _, fun i h => absurd h (Nat.not_lt_zero _), fun h => absurd h (by simp [sureR])⟩
 | e :: es => by
  obtain ⟨h1, h2, h3⟩ := sureR_spec s es
  unfold sureR
  by_cases h : e ≤ s
  · rw [if_pos h]
    refine ⟨by simp only [List.length_cons]; omega, fun i hi => ?_, fun hk => ?_⟩
    · cases i with
      | zero => exact h
      | succ i => exact h2 i (by omega)
    · exact h3 (by simp only [List.length_cons] at hk; omega)
  · rw [if_neg h]
    refine ⟨Nat.zero_le _, fun i hi => absurd hi (Nat.not_lt_zero _), fun _ => ?_⟩
    show s < e
    omega
theorem sureN_of (es : List Int) (s : Int) (k : Nat) : ∀ n, k ≤ n → (∀ i, k ≤ i → i < n → s < es.getD i 0) → (∀ i, i < k → es.getD i 0 ≤ s) → sureN es s n = k
 | 0, h, _, _ => by unfold sureN; omega
 | n + 1, h, h1, h2 => by
  unfold sureN
  by_cases hk : k = n + 1
  · have := h2 n (by omega)
    rw [if_neg (by omega)]
    exact hk.symm
  · rw [if_pos (h1 n (by omega) (by omega))]
    exact sureN_of es s k n (by omega) (fun i hi hn => h1 i hi (by omega)) h2
theorem flat_take_mono (xs : List K.S26) (i j : Nat) (h : i ≤ j) : (flatE (xs.take i)).length ≤ (flatE (xs.take j)).length := by
 have := flat_len_le (xs.take j) i
 rwa [List.take_take, Nat.min_eq_left h] at this
theorem sure_eq (xs : List K.S26) (s : Int) : sureN (endsE 0 xs) s (endsE 0 xs).length = sureR s (endsE 0 xs) := by
 obtain ⟨h1, h2, h3⟩ := sureR_spec s (endsE 0 xs)
 refine sureN_of _ s _ _ h1 (fun i hi hn => ?_) h2
 have h4 := h3 (by omega)
 have hl : (endsE 0 xs).length = xs.length := endsE_length 0 xs
 rw [endsE_get _ 0 xs (by omega)] at h4 ⊢
 have := flat_take_mono xs (sureR s (endsE 0 xs) + 1) (i + 1) (by omega)
 omega
end Go.Proofs.Ytmbnjgnmblgjoaa.Man
end
