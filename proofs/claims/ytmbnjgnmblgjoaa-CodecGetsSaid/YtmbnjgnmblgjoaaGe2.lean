-- Laid together by a program of this session (wip/tools/shake.py). Not trusted: Lean checks it.
import Derived.Test.YtmbnjgnmblgjoaaGe1

-- Kx4
section
-- Written by a program of this session (wip/tools/ppatch.py), function by function. Not trusted: Lean checks it.



namespace Go.Proofs.Ytmbnjgnmblgjoaa.K
open Go.RowKit Go.Proofs.YtmbnjgnmblgjoaaW.PrintWords Go.Proofs.YtmbnjgnmblgjoaaW.PrintLast Go.Proofs.YtmbnjgnmblgjoaaW.PrintMore
attribute [local go_sem] max2_int min2_int max_two min_two max_three min_three max_four min_four   -- for this text's walks alone
set_option linter.unusedVariables false
set_option linter.unusedSimpArgs false

/-! ### codec_entry: function 87 -/
def codec_entry.f (k : Nat) (a0_0 : Int) (a0_1 : Int) (a0_2 : Int) (a0_3 : Int) (a0_4 : Int) (a0_5 : Int) (a0_6 : Int) (a0_7 : Int) (l0_8 : List (S111)) (a0_9 : Int) : Option (Int) := if (mn a0_0 a0_1) < 0 then (some 1) else (if a0_0 ≥ 4 then (some 1) else (if a0_1 > 2147483647 then (some 1) else ((step_Check.f k a0_2 a0_3 a0_4 a0_5 a0_6 a0_7 l0_8 a0_9).bind fun t122 => (some t122))))
theorem codec_entry.mono : ∀ a0 a1 a2 a3 a4 a5 a6 a7 a8 a9 k, LeO (codec_entry.f k a0 a1 a2 a3 a4 a5 a6 a7 a8 a9) (codec_entry.f (k + 1) a0 a1 a2 a3 a4 a5 a6 a7 a8 a9) := by
  intro a0 a1 a2 a3 a4 a5 a6 a7 a8 a9 k
  unfold codec_entry.f
  repeat' first
      | (with_reducible exact step_Check.mono _ _ _ _ _ _ _ _ _)
      | (with_reducible exact LeO.refl _)
      | (with_reducible exact LeO.none _)
      | (with_reducible refine LeO.ite ?_ ?_)
      | (with_reducible refine LeO.bind ?_ (fun _ => ?_))
      | exact step_Check.mono _ _ _ _ _ _ _ _ _
      | exact LeO.none _
      | refine LeO.ite ?_ ?_
      | refine LeO.bind ?_ (fun _ => ?_)
set_option maxHeartbeats 8000000 in
set_option maxRecDepth 100000 in
theorem codec_entry.calls (k : Nat) (a0_0 : Int) (a0_1 : Int) (a0_2 : Int) (a0_3 : Int) (a0_4 : Int) (a0_5 : Int) (a0_6 : Int) (a0_7 : Int) (A0_8 : Option Addr) (c0_8 : Nat) (l0_8 : List (S111)) (a0_9 : Int) (r : Int) (w : World) (hr0_8 : Kd.C k111 w A0_8 l0_8.length l0_8) (hc0_8 : l0_8.length ≤ c0_8) (h : codec_entry.f k a0_0 a0_1 a0_2 a0_3 a0_4 a0_5 a0_6 a0_7 l0_8 a0_9 = some r) :
    Calls Try.prog 87 #[.agg #[.int .i64 a0_0, .int .i64 a0_1, .int .i64 a0_2, .int .i64 a0_3, .int .i64 a0_4, .int .i64 a0_5, .int .i64 a0_6, .int .i64 a0_7, .slice A0_8 l0_8.length c0_8, .int .i64 a0_9]] w fun e w' => e = .returned (.int .i64 r) ∧ Below w.heap.size w w' := by
  have hu26 := Try.underlying26
  have hu24 := Try.underlying24
  have HR0_8 := Aside0.mk hr0_8
  have HC0_8 := Aside0.mk hc0_8
  clear hr0_8 hc0_8
  have HB := Aside0.mk (Below.refl w.heap.size w)
  have H : (if (mn a0_0 a0_1) < 0 then (some 1) else (if a0_0 ≥ 4 then (some 1) else (if a0_1 > 2147483647 then (some 1) else ((step_Check.f k a0_2 a0_3 a0_4 a0_5 a0_6 a0_7 l0_8 a0_9).bind fun t122 => (some t122))))) = some r := h
  clear h
  obtain ⟨ji2, hji2⟩ : ∃ j_ : Int, (mn a0_0 a0_1) = j_ := ⟨_, rfl⟩
  replace H : (if (ji2) < 0 then (some 1) else (if a0_0 ≥ 4 then (some 1) else (if a0_1 > 2147483647 then (some 1) else ((step_Check.f k a0_2 a0_3 a0_4 a0_5 a0_6 a0_7 l0_8 a0_9).bind fun t122 => (some t122))))) = some r := by first | (rw [hji2] at H; exact H) | (simp only [hji2] at H ⊢; exact H)
  have hji2_ : (if a0_1 < a0_0 then a0_1 else a0_0) = ji2 := hji2
  by_cases c3 : (ji2) < 0
  · rw [if_pos c3] at H
    have c3b0 : decide ((ji2) < 0) = true := decide_eq_true c3
    clear c3
    obtain rfl := Option.some.inj H
    go_enter Try.func87, Try.ntmps87
    go_wp2_with (first | ((with_reducible refine gate_dst (N := 1) rfl ?_); refine box_event ?hg (N := 1) ?hd (cs := #[.int .i64 a0_0, .int .i64 a0_1, .int .i64 a0_2, .int .i64 a0_3, .int .i64 a0_4, .int .i64 a0_5, .int .i64 a0_6, .int .i64 a0_7, .slice A0_8 l0_8.length c0_8, .int .i64 a0_9]) (t := 26) ?hr ?_; (case hd => rfl); (case hg => rfl); (case hr => first | (go_simp; done) | (go_simp; rfl)); intro gb121 hg w4 hbox hb; have n0_ := Aside0.mk (below_step (by repeat (first | (with_reducible first | exact HB.out | apply below_alloc | apply pw_below_drewN | apply below_drew1) | exact HB.out)) hb); have n1_ := Aside0.mk (hbox); have n2_ := Aside0.mk ((by rw [hg]; exact (below_size (by repeat (first | (with_reducible first | exact HB.out | apply below_alloc | apply pw_below_drewN | apply below_drew1) | exact HB.out))) : w.heap.size ≤ gb121)); have n3_ := Aside0.mk ((by rw [hg]; exact (below_size (by repeat (first | (with_reducible first | exact HB.out | apply below_alloc | apply pw_below_drewN | apply below_drew1) | exact HB.out))) : w.heap.size ≤ gb121)); clear HB; have HB := n0_; have BK121 := n1_; have GW121 := n2_; have GE121 := n3_; clear n0_ n1_ n2_ n3_; clear hb hbox hg; have hcz5_0 : w4.cell? ⟨gb121, 0, none⟩ = some (.int .i64 a0_0) := (blk_cell BK121.out 0).trans rfl; have hcz5_1 : w4.cell? ⟨gb121, 1, none⟩ = some (.int .i64 a0_1) := (blk_cell BK121.out 1).trans rfl; have hcz5_2 : w4.cell? ⟨gb121, 2, none⟩ = some (.int .i64 a0_2) := (blk_cell BK121.out 2).trans rfl; have hcz5_3 : w4.cell? ⟨gb121, 3, none⟩ = some (.int .i64 a0_3) := (blk_cell BK121.out 3).trans rfl; have hcz5_4 : w4.cell? ⟨gb121, 4, none⟩ = some (.int .i64 a0_4) := (blk_cell BK121.out 4).trans rfl; have hcz5_5 : w4.cell? ⟨gb121, 5, none⟩ = some (.int .i64 a0_5) := (blk_cell BK121.out 5).trans rfl; have hcz5_6 : w4.cell? ⟨gb121, 6, none⟩ = some (.int .i64 a0_6) := (blk_cell BK121.out 6).trans rfl; have hcz5_7 : w4.cell? ⟨gb121, 7, none⟩ = some (.int .i64 a0_7) := (blk_cell BK121.out 7).trans rfl; have hcz5_8 : w4.cell? ⟨gb121, 8, none⟩ = some (.slice A0_8 l0_8.length c0_8) := (blk_cell BK121.out 8).trans rfl; have hcz5_9 : w4.cell? ⟨gb121, 9, none⟩ = some (.int .i64 a0_9) := (blk_cell BK121.out 9).trans rfl; have hfz5_0 := blk_frozen BK121.out 0; have hfz5_1 := blk_frozen BK121.out 1; have hfz5_2 := blk_frozen BK121.out 2; have hfz5_3 := blk_frozen BK121.out 3; have hfz5_4 := blk_frozen BK121.out 4; have hfz5_5 := blk_frozen BK121.out 5; have hfz5_6 := blk_frozen BK121.out 6; have hfz5_7 := blk_frozen BK121.out 7; have hfz5_8 := blk_frozen BK121.out 8; have hfz5_9 := blk_frozen BK121.out 9))
    go_ret
    exact ⟨by first | rfl | (simp [errW_none, errW_some] <;> rfl) | (simp only [← hji2]; first | rfl | (simp [errW_none, errW_some] <;> rfl)) | (simp [*, errW_none, errW_some] <;> rfl), by repeat (first | (with_reducible first | exact HB.out | apply below_alloc | apply pw_below_drewN | apply below_drew1 | refine below_set ?_ GE121.out) | exact HB.out)⟩
  · rw [if_neg c3] at H
    have c3b0 : decide ((ji2) < 0) = false := decide_eq_false c3
    clear c3
    by_cases c6 : a0_0 ≥ 4
    · rw [if_pos c6] at H
      have c6b0 : decide (4 ≤ a0_0) = true := decide_eq_true c6
      clear c6
      obtain rfl := Option.some.inj H
      go_enter Try.func87, Try.ntmps87
      go_wp2_with (first | ((with_reducible refine gate_dst (N := 1) rfl ?_); refine box_event ?hg (N := 1) ?hd (cs := #[.int .i64 a0_0, .int .i64 a0_1, .int .i64 a0_2, .int .i64 a0_3, .int .i64 a0_4, .int .i64 a0_5, .int .i64 a0_6, .int .i64 a0_7, .slice A0_8 l0_8.length c0_8, .int .i64 a0_9]) (t := 26) ?hr ?_; (case hd => rfl); (case hg => rfl); (case hr => first | (go_simp; done) | (go_simp; rfl)); intro gb121 hg w7 hbox hb; have n0_ := Aside0.mk (below_step (by repeat (first | (with_reducible first | exact HB.out | apply below_alloc | apply pw_below_drewN | apply below_drew1) | exact HB.out)) hb); have n1_ := Aside0.mk (hbox); have n2_ := Aside0.mk ((by rw [hg]; exact (below_size (by repeat (first | (with_reducible first | exact HB.out | apply below_alloc | apply pw_below_drewN | apply below_drew1) | exact HB.out))) : w.heap.size ≤ gb121)); have n3_ := Aside0.mk ((by rw [hg]; exact (below_size (by repeat (first | (with_reducible first | exact HB.out | apply below_alloc | apply pw_below_drewN | apply below_drew1) | exact HB.out))) : w.heap.size ≤ gb121)); clear HB; have HB := n0_; have BK121 := n1_; have GW121 := n2_; have GE121 := n3_; clear n0_ n1_ n2_ n3_; clear hb hbox hg; have hcz8_0 : w7.cell? ⟨gb121, 0, none⟩ = some (.int .i64 a0_0) := (blk_cell BK121.out 0).trans rfl; have hcz8_1 : w7.cell? ⟨gb121, 1, none⟩ = some (.int .i64 a0_1) := (blk_cell BK121.out 1).trans rfl; have hcz8_2 : w7.cell? ⟨gb121, 2, none⟩ = some (.int .i64 a0_2) := (blk_cell BK121.out 2).trans rfl; have hcz8_3 : w7.cell? ⟨gb121, 3, none⟩ = some (.int .i64 a0_3) := (blk_cell BK121.out 3).trans rfl; have hcz8_4 : w7.cell? ⟨gb121, 4, none⟩ = some (.int .i64 a0_4) := (blk_cell BK121.out 4).trans rfl; have hcz8_5 : w7.cell? ⟨gb121, 5, none⟩ = some (.int .i64 a0_5) := (blk_cell BK121.out 5).trans rfl; have hcz8_6 : w7.cell? ⟨gb121, 6, none⟩ = some (.int .i64 a0_6) := (blk_cell BK121.out 6).trans rfl; have hcz8_7 : w7.cell? ⟨gb121, 7, none⟩ = some (.int .i64 a0_7) := (blk_cell BK121.out 7).trans rfl; have hcz8_8 : w7.cell? ⟨gb121, 8, none⟩ = some (.slice A0_8 l0_8.length c0_8) := (blk_cell BK121.out 8).trans rfl; have hcz8_9 : w7.cell? ⟨gb121, 9, none⟩ = some (.int .i64 a0_9) := (blk_cell BK121.out 9).trans rfl; have hfz8_0 := blk_frozen BK121.out 0; have hfz8_1 := blk_frozen BK121.out 1; have hfz8_2 := blk_frozen BK121.out 2; have hfz8_3 := blk_frozen BK121.out 3; have hfz8_4 := blk_frozen BK121.out 4; have hfz8_5 := blk_frozen BK121.out 5; have hfz8_6 := blk_frozen BK121.out 6; have hfz8_7 := blk_frozen BK121.out 7; have hfz8_8 := blk_frozen BK121.out 8; have hfz8_9 := blk_frozen BK121.out 9))
      go_ret
      exact ⟨by first | rfl | (simp [errW_none, errW_some] <;> rfl) | (simp only [← hji2]; first | rfl | (simp [errW_none, errW_some] <;> rfl)) | (simp [*, errW_none, errW_some] <;> rfl), by repeat (first | (with_reducible first | exact HB.out | apply below_alloc | apply pw_below_drewN | apply below_drew1 | refine below_set ?_ GE121.out) | exact HB.out)⟩
    · rw [if_neg c6] at H
      have c6b0 : decide (4 ≤ a0_0) = false := decide_eq_false c6
      clear c6
      by_cases c9 : a0_1 > 2147483647
      · rw [if_pos c9] at H
        have c9b0 : decide (2147483647 < a0_1) = true := decide_eq_true c9
        clear c9
        obtain rfl := Option.some.inj H
        go_enter Try.func87, Try.ntmps87
        go_wp2_with (first | ((with_reducible refine gate_dst (N := 1) rfl ?_); refine box_event ?hg (N := 1) ?hd (cs := #[.int .i64 a0_0, .int .i64 a0_1, .int .i64 a0_2, .int .i64 a0_3, .int .i64 a0_4, .int .i64 a0_5, .int .i64 a0_6, .int .i64 a0_7, .slice A0_8 l0_8.length c0_8, .int .i64 a0_9]) (t := 26) ?hr ?_; (case hd => rfl); (case hg => rfl); (case hr => first | (go_simp; done) | (go_simp; rfl)); intro gb121 hg w10 hbox hb; have n0_ := Aside0.mk (below_step (by repeat (first | (with_reducible first | exact HB.out | apply below_alloc | apply pw_below_drewN | apply below_drew1) | exact HB.out)) hb); have n1_ := Aside0.mk (hbox); have n2_ := Aside0.mk ((by rw [hg]; exact (below_size (by repeat (first | (with_reducible first | exact HB.out | apply below_alloc | apply pw_below_drewN | apply below_drew1) | exact HB.out))) : w.heap.size ≤ gb121)); have n3_ := Aside0.mk ((by rw [hg]; exact (below_size (by repeat (first | (with_reducible first | exact HB.out | apply below_alloc | apply pw_below_drewN | apply below_drew1) | exact HB.out))) : w.heap.size ≤ gb121)); clear HB; have HB := n0_; have BK121 := n1_; have GW121 := n2_; have GE121 := n3_; clear n0_ n1_ n2_ n3_; clear hb hbox hg; have hcz11_0 : w10.cell? ⟨gb121, 0, none⟩ = some (.int .i64 a0_0) := (blk_cell BK121.out 0).trans rfl; have hcz11_1 : w10.cell? ⟨gb121, 1, none⟩ = some (.int .i64 a0_1) := (blk_cell BK121.out 1).trans rfl; have hcz11_2 : w10.cell? ⟨gb121, 2, none⟩ = some (.int .i64 a0_2) := (blk_cell BK121.out 2).trans rfl; have hcz11_3 : w10.cell? ⟨gb121, 3, none⟩ = some (.int .i64 a0_3) := (blk_cell BK121.out 3).trans rfl; have hcz11_4 : w10.cell? ⟨gb121, 4, none⟩ = some (.int .i64 a0_4) := (blk_cell BK121.out 4).trans rfl; have hcz11_5 : w10.cell? ⟨gb121, 5, none⟩ = some (.int .i64 a0_5) := (blk_cell BK121.out 5).trans rfl; have hcz11_6 : w10.cell? ⟨gb121, 6, none⟩ = some (.int .i64 a0_6) := (blk_cell BK121.out 6).trans rfl; have hcz11_7 : w10.cell? ⟨gb121, 7, none⟩ = some (.int .i64 a0_7) := (blk_cell BK121.out 7).trans rfl; have hcz11_8 : w10.cell? ⟨gb121, 8, none⟩ = some (.slice A0_8 l0_8.length c0_8) := (blk_cell BK121.out 8).trans rfl; have hcz11_9 : w10.cell? ⟨gb121, 9, none⟩ = some (.int .i64 a0_9) := (blk_cell BK121.out 9).trans rfl; have hfz11_0 := blk_frozen BK121.out 0; have hfz11_1 := blk_frozen BK121.out 1; have hfz11_2 := blk_frozen BK121.out 2; have hfz11_3 := blk_frozen BK121.out 3; have hfz11_4 := blk_frozen BK121.out 4; have hfz11_5 := blk_frozen BK121.out 5; have hfz11_6 := blk_frozen BK121.out 6; have hfz11_7 := blk_frozen BK121.out 7; have hfz11_8 := blk_frozen BK121.out 8; have hfz11_9 := blk_frozen BK121.out 9))
        go_ret
        exact ⟨by first | rfl | (simp [errW_none, errW_some] <;> rfl) | (simp only [← hji2]; first | rfl | (simp [errW_none, errW_some] <;> rfl)) | (simp [*, errW_none, errW_some] <;> rfl), by repeat (first | (with_reducible first | exact HB.out | apply below_alloc | apply pw_below_drewN | apply below_drew1 | refine below_set ?_ GE121.out) | exact HB.out)⟩
      · rw [if_neg c9] at H
        have c9b0 : decide (2147483647 < a0_1) = false := decide_eq_false c9
        clear c9
        replace H := Option.bind_eq_some_iff.mp H
        obtain ⟨t122, A120, H⟩ := H
        replace H : (some t122) = some r := H
        have A12 := Aside0.mk A120
        clear A120
        obtain rfl := Option.some.inj H
        go_enter Try.func87, Try.ntmps87
        go_wp2_with (first | ((with_reducible refine gate_dst (N := 1) rfl ?_); refine box_event ?hg (N := 1) ?hd (cs := #[.int .i64 a0_0, .int .i64 a0_1, .int .i64 a0_2, .int .i64 a0_3, .int .i64 a0_4, .int .i64 a0_5, .int .i64 a0_6, .int .i64 a0_7, .slice A0_8 l0_8.length c0_8, .int .i64 a0_9]) (t := 26) ?hr ?_; (case hd => rfl); (case hg => rfl); (case hr => first | (go_simp; done) | (go_simp; rfl)); intro gb121 hg w13 hbox hb; have n0_ := Aside0.mk (below_step (by repeat (first | (with_reducible first | exact HB.out | apply below_alloc | apply pw_below_drewN | apply below_drew1) | exact HB.out)) hb); have n1_ := Aside0.mk (hbox); have n2_ := Aside0.mk ((by rw [hg]; exact (below_size (by repeat (first | (with_reducible first | exact HB.out | apply below_alloc | apply pw_below_drewN | apply below_drew1) | exact HB.out))) : w.heap.size ≤ gb121)); have n3_ := Aside0.mk ((by rw [hg]; exact (below_size (by repeat (first | (with_reducible first | exact HB.out | apply below_alloc | apply pw_below_drewN | apply below_drew1) | exact HB.out))) : w.heap.size ≤ gb121)); clear HB; have HB := n0_; have BK121 := n1_; have GW121 := n2_; have GE121 := n3_; clear n0_ n1_ n2_ n3_; clear hb hbox hg; have hcz14_0 : w13.cell? ⟨gb121, 0, none⟩ = some (.int .i64 a0_0) := (blk_cell BK121.out 0).trans rfl; have hcz14_1 : w13.cell? ⟨gb121, 1, none⟩ = some (.int .i64 a0_1) := (blk_cell BK121.out 1).trans rfl; have hcz14_2 : w13.cell? ⟨gb121, 2, none⟩ = some (.int .i64 a0_2) := (blk_cell BK121.out 2).trans rfl; have hcz14_3 : w13.cell? ⟨gb121, 3, none⟩ = some (.int .i64 a0_3) := (blk_cell BK121.out 3).trans rfl; have hcz14_4 : w13.cell? ⟨gb121, 4, none⟩ = some (.int .i64 a0_4) := (blk_cell BK121.out 4).trans rfl; have hcz14_5 : w13.cell? ⟨gb121, 5, none⟩ = some (.int .i64 a0_5) := (blk_cell BK121.out 5).trans rfl; have hcz14_6 : w13.cell? ⟨gb121, 6, none⟩ = some (.int .i64 a0_6) := (blk_cell BK121.out 6).trans rfl; have hcz14_7 : w13.cell? ⟨gb121, 7, none⟩ = some (.int .i64 a0_7) := (blk_cell BK121.out 7).trans rfl; have hcz14_8 : w13.cell? ⟨gb121, 8, none⟩ = some (.slice A0_8 l0_8.length c0_8) := (blk_cell BK121.out 8).trans rfl; have hcz14_9 : w13.cell? ⟨gb121, 9, none⟩ = some (.int .i64 a0_9) := (blk_cell BK121.out 9).trans rfl; have hfz14_0 := blk_frozen BK121.out 0; have hfz14_1 := blk_frozen BK121.out 1; have hfz14_2 := blk_frozen BK121.out 2; have hfz14_3 := blk_frozen BK121.out 3; have hfz14_4 := blk_frozen BK121.out 4; have hfz14_5 := blk_frozen BK121.out 5; have hfz14_6 := blk_frozen BK121.out 6; have hfz14_7 := blk_frozen BK121.out 7; have hfz14_8 := blk_frozen BK121.out 8; have hfz14_9 := blk_frozen BK121.out 9) | ((with_reducible refine gate_callee (f := 97) rfl ?_); refine goesL_ (some 21) rfl rfl Try.func97 (by kernel_rfl) rfl #[.agg #[.int .i64 a0_2, .int .i64 a0_3, .int .i64 a0_4, .int .i64 a0_5, .int .i64 a0_6, .int .i64 a0_7, .slice A0_8 l0_8.length c0_8, .int .i64 a0_9]] rfl (by (try simp only [List.map_toArray, List.map_cons, List.map_nil]); first | done | rfl | (simp only [List.length_drop, List.length_take]; rfl)) ?_; (with_reducible refine (step_Check.calls k a0_2 a0_3 a0_4 a0_5 a0_6 a0_7 _ _ l0_8 a0_9 t122 _ ?side1 ?side2 A12.out).mono ?_); (case side1 => repeat (first | exact (Kd.C_below HR0_8.out HB.out) | (with_reducible refine Kd.C_alloc ?_ _) | (with_reducible refine Kd.C_drewN ?_ _) | (with_reducible refine Kd.C_drew ?_))); (case side2 => exact HC0_8.out); rintro e w15 ⟨rfl, hb⟩; refine ⟨_, rfl, ?_⟩; have n0_ := Aside0.mk (blk_below (g := gb121) (o := .cells #[.int .i64 a0_0, .int .i64 a0_1, .int .i64 a0_2, .int .i64 a0_3, .int .i64 a0_4, .int .i64 a0_5, .int .i64 a0_6, .int .i64 a0_7, .slice A0_8 l0_8.length c0_8, .int .i64 a0_9] 26 (0, 0)) (by (with_reducible repeat (first | refine blk_drewN ?_ _ | refine blk_drew ?_ | refine blk_alloc ?_ _)); exact BK121.out) hb); have n1_ := Aside0.mk (below_step (by repeat (first | (with_reducible first | exact HB.out | apply below_alloc | apply pw_below_drewN | apply below_drew1 | refine below_set ?_ GE121.out) | exact HB.out)) hb); clear BK121; clear HB; have BK121 := n0_; have HB := n1_; clear n0_ n1_; (try clear hb); (try clear hb2); (try clear hk); (try clear hi)))
        go_ret
        exact ⟨by first | rfl | (simp [errW_none, errW_some] <;> rfl) | (simp only [← hji2]; first | rfl | (simp [errW_none, errW_some] <;> rfl)) | (simp [*, errW_none, errW_some] <;> rfl), by repeat (first | (with_reducible first | exact HB.out | apply below_alloc | apply pw_below_drewN | apply below_drew1 | refine below_set ?_ GE121.out) | exact HB.out)⟩

/-! ### codec_doc: function 103 -/
def codec_doc.l0 : Nat → List (S111) → Int → Int → Option (Int)
  | 0, _, _, _ => none
  | k + 1, x8, x9, x10 => if x10 < x9 then (if 0 ≤ x10 then (if x10 < (x8.length : Int) then ((flat_Right.f ((rd_T111 x8 x10).f0) ((rd_T111 x8 x10).f1) ((rd_T111 x8 x10).f2) ((rd_T111 x8 x10).f3)).bind fun t125 => (if t125 = true then (codec_doc.l0 k x8 x9 (wrap64 (x10 + 1))) else (some 1))) else (none)) else (none)) else (some 0)
def codec_doc.f (k : Nat) (l0 : List (S111)) : Option (Int) := if (l0.length : Int) > 2048 then (some 2) else (codec_doc.l0 k l0 (l0.length : Int) 0)
theorem codec_doc.mono_l : ∀ k, (∀ y0 y1 y2, LeO (codec_doc.l0 k y0 y1 y2) (codec_doc.l0 (k + 1) y0 y1 y2))
  | 0 => fun _ _ _ r h => by simp [codec_doc.l0] at h
  | k + 1 => by
    have ih0 := codec_doc.mono_l k
    · intro y0 y1 y2
      unfold codec_doc.l0
      repeat' first
      | (with_reducible exact ih0 _ _ _)
      | (with_reducible exact LeO.refl _)
      | (with_reducible exact LeO.none _)
      | (with_reducible refine LeO.ite ?_ ?_)
      | (with_reducible refine LeO.bind ?_ (fun _ => ?_))
      | exact ih0 _ _ _
      | exact LeO.none _
      | refine LeO.ite ?_ ?_
      | refine LeO.bind ?_ (fun _ => ?_)
theorem codec_doc.mono : ∀ a0 k, LeO (codec_doc.f k a0) (codec_doc.f (k + 1) a0) := by
  intro a0 k
  have ih0 := codec_doc.mono_l k
  unfold codec_doc.f
  repeat' first
      | (with_reducible exact ih0 _ _ _)
      | (with_reducible exact LeO.refl _)
      | (with_reducible exact LeO.none _)
      | (with_reducible refine LeO.ite ?_ ?_)
      | (with_reducible refine LeO.bind ?_ (fun _ => ?_))
      | exact ih0 _ _ _
      | exact LeO.none _
      | refine LeO.ite ?_ ?_
      | refine LeO.bind ?_ (fun _ => ?_)
set_option maxHeartbeats 8000000 in
set_option maxRecDepth 100000 in
theorem codec_doc.calls (k : Nat) (A0 : Option Addr) (c0 : Nat) (l0 : List (S111)) (r : Int) (w : World) (hr0 : Kd.C k111 w A0 l0.length l0) (hc0 : l0.length ≤ c0) (h : codec_doc.f k l0 = some r) :
    Calls Try.prog 103 #[.slice A0 l0.length c0] w fun e w' => e = .returned (.int .i64 r) ∧ Below w.heap.size w w' := by
  have hu111 := Try.underlying111
  have HR0 := Aside0.mk hr0
  have HC0 := Aside0.mk hc0
  clear hr0 hc0
  have HB := Aside0.mk (Below.refl w.heap.size w)
  have H : (if (l0.length : Int) > 2048 then (some 2) else (codec_doc.l0 k l0 (l0.length : Int) 0)) = some r := h
  clear h
  by_cases c2 : (l0.length : Int) > 2048
  · rw [if_pos c2] at H
    have c2b0 : decide (2048 < (l0.length : Int)) = true := decide_eq_true c2
    have c2b1 : decide (2048 < l0.length) = true := decide_eq_true (by omega)
    clear c2
    obtain rfl := Option.some.inj H
    go_enter Try.func103, Try.ntmps103
    go_wp2
    go_ret
    exact ⟨by first | rfl | (simp [errW_none, errW_some] <;> rfl) | (simp [*, errW_none, errW_some] <;> rfl), by repeat (first | (with_reducible first | exact HB.out | apply below_alloc | apply pw_below_drewN | apply below_drew1) | exact HB.out)⟩
  · rw [if_neg c2] at H
    have c2b0 : decide (2048 < (l0.length : Int)) = false := decide_eq_false c2
    have c2b1 : decide (2048 < l0.length) = false := decide_eq_false (by omega)
    clear c2
    have H' := Aside0.mk H
    clear H
    go_enter Try.func103, Try.ntmps103
    go_wp2
    go_loopg [10] k (fun kq v10 w' => ∃ (x10_1 : Int), v10 = .int .i64 x10_1 ∧ Aside0 (codec_doc.l0 kq l0 (l0.length : Int) x10_1 = some r) ∧ Aside0 (kq ≤ k) ∧ Aside0 (Below w.heap.size w w'))
    case atStart => exact ⟨(0), (by first | rfl | (simp; done) | (simp [*]; done)), H', ⟨Nat.le_refl _⟩, ⟨by repeat (first | (with_reducible first | exact HB.out | apply below_alloc | apply pw_below_drewN | apply below_drew1) | exact HB.out)⟩⟩
    case round =>
      clear H'
      try clear c1
      try clear c2
      try clear c2b0
      try clear c2b1
      try clear p2
      obtain ⟨x10_1, rfl, HA, HK1, HB⟩ := hrel
      cases gk with
      | zero => exact absurd HA.out (by simp [codec_doc.l0])
      | succ k1 =>
        have H := HA.out
        clear HA
        simp only [codec_doc.l0] at H
        by_cases c3 : x10_1 < (l0.length : Int)
        · rw [if_pos c3] at H
          have c3b0 : decide (x10_1 < (l0.length : Int)) = true := decide_eq_true c3
          clear c3
          by_cases c4 : 0 ≤ x10_1
          · rw [if_pos c4] at H
            have c4b0 : decide (0 ≤ x10_1) = true := decide_eq_true c4
            clear c4
            by_cases c5 : x10_1 < (l0.length : Int)
            · rw [if_pos c5] at H
              have c5b0 : decide (x10_1 < (l0.length : Int)) = true := decide_eq_true c5
              clear c5
              replace H := Option.bind_eq_some_iff.mp H
              obtain ⟨t125, A60, H⟩ := H
              replace H : (if t125 = true then (codec_doc.l0 k1 l0 (l0.length : Int) (wrap64 (x10_1 + 1))) else (some 1)) = some r := H
              have A6 := Aside0.mk A60
              clear A60
              by_cases c7 : t125 = true
              · subst c7
                have H1 : (codec_doc.l0 k1 l0 (l0.length : Int) (wrap64 (x10_1 + 1))) = some r := by rw [if_pos rfl] at H; exact H
                clear H
                have H := H1
                clear H1
                have H' := Aside0.mk H
                clear H
                have p123 : 0 ≤ (x10_1 : Int) := of_decide_eq_true (by first | (with_reducible assumption) | assumption)
                have q123 : x10_1 < (l0.length : Int) := of_decide_eq_true (by first | (with_reducible assumption) | assumption)
                obtain ⟨ad123, e123, hx123_0, hx123_1, hx123_2, hx123_3⟩ := at_T111 HR0.out x10_1 p123 q123
                cases e123
                replace hx123_0 := (HB.out.cell (World.block_lt_of_cell? w _ hx123_0)).trans hx123_0
                replace hx123_1 := (HB.out.cell (World.block_lt_of_cell? w _ hx123_1)).trans hx123_1
                replace hx123_2 := (HB.out.cell (World.block_lt_of_cell? w _ hx123_2)).trans hx123_2
                replace hx123_3 := (HB.out.cell (World.block_lt_of_cell? w _ hx123_3)).trans hx123_3
                replace p123 := eq_true p123
                replace q123 := eq_true q123
                go_wp2_with (first | ((with_reducible refine gate_dst (N := 4) rfl ?_); refine box_event ?hg (N := 4) ?hd (cs := #[.int .i64 0, .int .i64 0, .int .i64 0, .int .i64 0]) (t := 111) ?hr ?_; (case hd => rfl); (case hg => rfl); (case hr => first | (go_simp; done) | (go_simp; rfl)); intro gb124 hg w8 hbox hb; have n0_ := Aside0.mk (below_step (by repeat (first | (with_reducible first | exact HB.out | apply below_alloc | apply pw_below_drewN | apply below_drew1) | exact HB.out)) hb); have n1_ := Aside0.mk (hbox); have n2_ := Aside0.mk ((by rw [hg]; exact (below_size (by repeat (first | (with_reducible first | exact HB.out | apply below_alloc | apply pw_below_drewN | apply below_drew1) | exact HB.out))) : w.heap.size ≤ gb124)); have n3_ := Aside0.mk ((by rw [hg]; exact (below_size (by repeat (first | (with_reducible first | exact HB.out | apply below_alloc | apply pw_below_drewN | apply below_drew1) | exact HB.out))) : w.heap.size ≤ gb124)); clear HB; have HB := n0_; have BK124 := n1_; have GW124 := n2_; have GE124 := n3_; clear n0_ n1_ n2_ n3_; clear hb hbox hg; have hcz9_0 : w8.cell? ⟨gb124, 0, none⟩ = some (.int .i64 0) := (blk_cell BK124.out 0).trans rfl; have hcz9_1 : w8.cell? ⟨gb124, 1, none⟩ = some (.int .i64 0) := (blk_cell BK124.out 1).trans rfl; have hcz9_2 : w8.cell? ⟨gb124, 2, none⟩ = some (.int .i64 0) := (blk_cell BK124.out 2).trans rfl; have hcz9_3 : w8.cell? ⟨gb124, 3, none⟩ = some (.int .i64 0) := (blk_cell BK124.out 3).trans rfl; have hfz9_0 := blk_frozen BK124.out 0; have hfz9_1 := blk_frozen BK124.out 1; have hfz9_2 := blk_frozen BK124.out 2; have hfz9_3 := blk_frozen BK124.out 3) | ((with_reducible refine gate_callee (f := 75) rfl ?_); refine goesL_ (some 15) rfl rfl Try.func75 (by kernel_rfl) rfl #[.agg #[.int .i64 ((rd_T111 l0 x10_1).f0), .int .i64 ((rd_T111 l0 x10_1).f1), .int .i64 ((rd_T111 l0 x10_1).f2), .int .i64 ((rd_T111 l0 x10_1).f3)]] rfl (by (try simp only [List.map_toArray, List.map_cons, List.map_nil]); first | done | rfl | (simp only [List.length_drop, List.length_take]; rfl)) ?_; (with_reducible refine (flat_Right.calls ((rd_T111 l0 x10_1).f0) ((rd_T111 l0 x10_1).f1) ((rd_T111 l0 x10_1).f2) ((rd_T111 l0 x10_1).f3) true _ A6.out).mono ?_); rintro e w10 ⟨rfl, hb⟩; refine ⟨_, rfl, ?_⟩; have n0_ := Aside0.mk (blk_below (g := gb124) (o := .cells #[.int .i64 ((rd_T111 l0 x10_1).f0), .int .i64 ((rd_T111 l0 x10_1).f1), .int .i64 ((rd_T111 l0 x10_1).f2), .int .i64 ((rd_T111 l0 x10_1).f3)] 111 (0, 0)) (by (with_reducible repeat (first | refine blk_drewN ?_ _ | refine blk_drew ?_ | refine blk_alloc ?_ _)); refine blk_put (cs := #[.int .i64 ((rd_T111 l0 x10_1).f0), .int .i64 ((rd_T111 l0 x10_1).f1), .int .i64 ((rd_T111 l0 x10_1).f2), .int .i64 0]) ?_ 3 _ rfl; (with_reducible repeat (first | refine blk_drewN ?_ _ | refine blk_drew ?_ | refine blk_alloc ?_ _)); refine blk_put (cs := #[.int .i64 ((rd_T111 l0 x10_1).f0), .int .i64 ((rd_T111 l0 x10_1).f1), .int .i64 0, .int .i64 0]) ?_ 2 _ rfl; (with_reducible repeat (first | refine blk_drewN ?_ _ | refine blk_drew ?_ | refine blk_alloc ?_ _)); refine blk_put (cs := #[.int .i64 ((rd_T111 l0 x10_1).f0), .int .i64 0, .int .i64 0, .int .i64 0]) ?_ 1 _ rfl; (with_reducible repeat (first | refine blk_drewN ?_ _ | refine blk_drew ?_ | refine blk_alloc ?_ _)); refine blk_put (cs := #[.int .i64 0, .int .i64 0, .int .i64 0, .int .i64 0]) ?_ 0 _ rfl; (with_reducible repeat (first | refine blk_drewN ?_ _ | refine blk_drew ?_ | refine blk_alloc ?_ _)); exact BK124.out) hb); have n1_ := Aside0.mk (below_step (by repeat (first | (with_reducible first | exact HB.out | apply below_alloc | apply pw_below_drewN | apply below_drew1 | refine below_set ?_ GE124.out) | exact HB.out)) hb); clear BK124; clear HB; have BK124 := n0_; have HB := n1_; clear n0_ n1_; (try clear hb); (try clear hb2); (try clear hk); (try clear hi)))
                go_roundg k1
                case measure => have := HK1.out; omega
                case rel => exact ⟨(wrap64 (x10_1 + 1)), (by first | rfl | (simp; done) | (simp [*]; done)), H', ⟨by have := HK1.out; omega⟩, ⟨by repeat (first | (with_reducible first | exact HB.out | apply below_alloc | apply pw_below_drewN | apply below_drew1 | refine below_set ?_ GE124.out) | exact HB.out)⟩⟩
              · replace c7 := Bool.eq_false_iff.mpr c7
                subst c7
                have H1 : (some 1) = some r := by rw [if_neg (show ¬ (false = true) by decide)] at H; exact H
                clear H
                have H := H1
                clear H1
                obtain rfl := Option.some.inj H
                have p123 : 0 ≤ (x10_1 : Int) := of_decide_eq_true (by first | (with_reducible assumption) | assumption)
                have q123 : x10_1 < (l0.length : Int) := of_decide_eq_true (by first | (with_reducible assumption) | assumption)
                obtain ⟨ad123, e123, hx123_0, hx123_1, hx123_2, hx123_3⟩ := at_T111 HR0.out x10_1 p123 q123
                cases e123
                replace hx123_0 := (HB.out.cell (World.block_lt_of_cell? w _ hx123_0)).trans hx123_0
                replace hx123_1 := (HB.out.cell (World.block_lt_of_cell? w _ hx123_1)).trans hx123_1
                replace hx123_2 := (HB.out.cell (World.block_lt_of_cell? w _ hx123_2)).trans hx123_2
                replace hx123_3 := (HB.out.cell (World.block_lt_of_cell? w _ hx123_3)).trans hx123_3
                replace p123 := eq_true p123
                replace q123 := eq_true q123
                go_wp2_with (first | ((with_reducible refine gate_dst (N := 4) rfl ?_); refine box_event ?hg (N := 4) ?hd (cs := #[.int .i64 0, .int .i64 0, .int .i64 0, .int .i64 0]) (t := 111) ?hr ?_; (case hd => rfl); (case hg => rfl); (case hr => first | (go_simp; done) | (go_simp; rfl)); intro gb124 hg w11 hbox hb; have n0_ := Aside0.mk (below_step (by repeat (first | (with_reducible first | exact HB.out | apply below_alloc | apply pw_below_drewN | apply below_drew1) | exact HB.out)) hb); have n1_ := Aside0.mk (hbox); have n2_ := Aside0.mk ((by rw [hg]; exact (below_size (by repeat (first | (with_reducible first | exact HB.out | apply below_alloc | apply pw_below_drewN | apply below_drew1) | exact HB.out))) : w.heap.size ≤ gb124)); have n3_ := Aside0.mk ((by rw [hg]; exact (below_size (by repeat (first | (with_reducible first | exact HB.out | apply below_alloc | apply pw_below_drewN | apply below_drew1) | exact HB.out))) : w.heap.size ≤ gb124)); clear HB; have HB := n0_; have BK124 := n1_; have GW124 := n2_; have GE124 := n3_; clear n0_ n1_ n2_ n3_; clear hb hbox hg; have hcz12_0 : w11.cell? ⟨gb124, 0, none⟩ = some (.int .i64 0) := (blk_cell BK124.out 0).trans rfl; have hcz12_1 : w11.cell? ⟨gb124, 1, none⟩ = some (.int .i64 0) := (blk_cell BK124.out 1).trans rfl; have hcz12_2 : w11.cell? ⟨gb124, 2, none⟩ = some (.int .i64 0) := (blk_cell BK124.out 2).trans rfl; have hcz12_3 : w11.cell? ⟨gb124, 3, none⟩ = some (.int .i64 0) := (blk_cell BK124.out 3).trans rfl; have hfz12_0 := blk_frozen BK124.out 0; have hfz12_1 := blk_frozen BK124.out 1; have hfz12_2 := blk_frozen BK124.out 2; have hfz12_3 := blk_frozen BK124.out 3) | ((with_reducible refine gate_callee (f := 75) rfl ?_); refine goesL_ (some 15) rfl rfl Try.func75 (by kernel_rfl) rfl #[.agg #[.int .i64 ((rd_T111 l0 x10_1).f0), .int .i64 ((rd_T111 l0 x10_1).f1), .int .i64 ((rd_T111 l0 x10_1).f2), .int .i64 ((rd_T111 l0 x10_1).f3)]] rfl (by (try simp only [List.map_toArray, List.map_cons, List.map_nil]); first | done | rfl | (simp only [List.length_drop, List.length_take]; rfl)) ?_; (with_reducible refine (flat_Right.calls ((rd_T111 l0 x10_1).f0) ((rd_T111 l0 x10_1).f1) ((rd_T111 l0 x10_1).f2) ((rd_T111 l0 x10_1).f3) false _ A6.out).mono ?_); rintro e w13 ⟨rfl, hb⟩; refine ⟨_, rfl, ?_⟩; have n0_ := Aside0.mk (blk_below (g := gb124) (o := .cells #[.int .i64 ((rd_T111 l0 x10_1).f0), .int .i64 ((rd_T111 l0 x10_1).f1), .int .i64 ((rd_T111 l0 x10_1).f2), .int .i64 ((rd_T111 l0 x10_1).f3)] 111 (0, 0)) (by (with_reducible repeat (first | refine blk_drewN ?_ _ | refine blk_drew ?_ | refine blk_alloc ?_ _)); refine blk_put (cs := #[.int .i64 ((rd_T111 l0 x10_1).f0), .int .i64 ((rd_T111 l0 x10_1).f1), .int .i64 ((rd_T111 l0 x10_1).f2), .int .i64 0]) ?_ 3 _ rfl; (with_reducible repeat (first | refine blk_drewN ?_ _ | refine blk_drew ?_ | refine blk_alloc ?_ _)); refine blk_put (cs := #[.int .i64 ((rd_T111 l0 x10_1).f0), .int .i64 ((rd_T111 l0 x10_1).f1), .int .i64 0, .int .i64 0]) ?_ 2 _ rfl; (with_reducible repeat (first | refine blk_drewN ?_ _ | refine blk_drew ?_ | refine blk_alloc ?_ _)); refine blk_put (cs := #[.int .i64 ((rd_T111 l0 x10_1).f0), .int .i64 0, .int .i64 0, .int .i64 0]) ?_ 1 _ rfl; (with_reducible repeat (first | refine blk_drewN ?_ _ | refine blk_drew ?_ | refine blk_alloc ?_ _)); refine blk_put (cs := #[.int .i64 0, .int .i64 0, .int .i64 0, .int .i64 0]) ?_ 0 _ rfl; (with_reducible repeat (first | refine blk_drewN ?_ _ | refine blk_drew ?_ | refine blk_alloc ?_ _)); exact BK124.out) hb); have n1_ := Aside0.mk (below_step (by repeat (first | (with_reducible first | exact HB.out | apply below_alloc | apply pw_below_drewN | apply below_drew1 | refine below_set ?_ GE124.out) | exact HB.out)) hb); clear BK124; clear HB; have BK124 := n0_; have HB := n1_; clear n0_ n1_; (try clear hb); (try clear hb2); (try clear hk); (try clear hi)))
                go_ret
                exact ⟨by first | rfl | (simp [errW_none, errW_some] <;> rfl) | (simp [*, errW_none, errW_some] <;> rfl), by repeat (first | (with_reducible first | exact HB.out | apply below_alloc | apply pw_below_drewN | apply below_drew1 | refine below_set ?_ GE124.out) | exact HB.out)⟩
            · rw [if_neg c5] at H
              exact absurd H (by simp)
          · rw [if_neg c4] at H
            exact absurd H (by simp)
        · rw [if_neg c3] at H
          have c3b0 : decide (x10_1 < (l0.length : Int)) = false := decide_eq_false c3
          clear c3
          obtain rfl := Option.some.inj H
          go_wp2
          go_ret
          exact ⟨by first | rfl | (simp [errW_none, errW_some] <;> rfl) | (simp [*, errW_none, errW_some] <;> rfl), by repeat (first | (with_reducible first | exact HB.out | apply below_alloc | apply pw_below_drewN | apply below_drew1) | exact HB.out)⟩

/-! ### emenderref04_Point: function 149 -/
def emenderref04_Point.f (a0 : Int) : Option (Bool) := if a0 ≥ 0 then (if a0 ≤ 1114111 then (if a0 < 55296 then (some true) else (some (decide (a0 > 57343)))) else (some false)) else (some false)
set_option maxHeartbeats 8000000 in
set_option maxRecDepth 100000 in
theorem emenderref04_Point.calls (a0 : Int) (r : Bool) (w : World) (h : emenderref04_Point.f a0 = some r) :
    Calls Try.prog 149 #[.int .i64 a0] w fun e w' => e = .returned (.bool r) ∧ Drawn0 w w' := by
  have H : (if a0 ≥ 0 then (if a0 ≤ 1114111 then (if a0 < 55296 then (some true) else (some (decide (a0 > 57343)))) else (some false)) else (some false)) = some r := h
  clear h
  by_cases c2 : a0 ≥ 0
  · rw [if_pos c2] at H
    have c2b0 : decide (0 ≤ a0) = true := decide_eq_true c2
    clear c2
    by_cases c3 : a0 ≤ 1114111
    · rw [if_pos c3] at H
      have c3b0 : decide (a0 ≤ 1114111) = true := decide_eq_true c3
      clear c3
      by_cases c4 : a0 < 55296
      · rw [if_pos c4] at H
        have c4b0 : decide (a0 < 55296) = true := decide_eq_true c4
        clear c4
        obtain rfl := Option.some.inj H
        go_enter Try.func149, Try.ntmps149
        go_wp2
        go_ret
        exact ⟨by first | rfl | (simp; done) | (simp [*]; done), by repeat (first | exact Drawn0.refl _ | apply Drawn0.step)⟩
      · rw [if_neg c4] at H
        have c4b0 : decide (a0 < 55296) = false := decide_eq_false c4
        clear c4
        obtain rfl := Option.some.inj H
        go_enter Try.func149, Try.ntmps149
        go_wp2
        go_ret
        exact ⟨by first | rfl | (simp; done) | (simp [*]; done), by repeat (first | exact Drawn0.refl _ | apply Drawn0.step)⟩
    · rw [if_neg c3] at H
      have c3b0 : decide (a0 ≤ 1114111) = false := decide_eq_false c3
      clear c3
      obtain rfl := Option.some.inj H
      go_enter Try.func149, Try.ntmps149
      go_wp2
      go_ret
      exact ⟨by first | rfl | (simp; done) | (simp [*]; done), by repeat (first | exact Drawn0.refl _ | apply Drawn0.step)⟩
  · rw [if_neg c2] at H
    have c2b0 : decide (0 ≤ a0) = false := decide_eq_false c2
    clear c2
    obtain rfl := Option.some.inj H
    go_enter Try.func149, Try.ntmps149
    go_wp2
    go_ret
    exact ⟨by first | rfl | (simp; done) | (simp [*]; done), by repeat (first | exact Drawn0.refl _ | apply Drawn0.step)⟩

/-! ### emenderref03_Right: function 150 -/
def emenderref03_Right.f (a0 : Int) : Option (Bool) := if a0 ≥ 0 then (some (decide (a0 ≤ 4))) else (some false)
set_option maxHeartbeats 8000000 in
set_option maxRecDepth 100000 in
theorem emenderref03_Right.calls (a0 : Int) (r : Bool) (w : World) (h : emenderref03_Right.f a0 = some r) :
    Calls Try.prog 150 #[.int .i64 a0] w fun e w' => e = .returned (.bool r) ∧ Drawn0 w w' := by
  have H : (if a0 ≥ 0 then (some (decide (a0 ≤ 4))) else (some false)) = some r := h
  clear h
  by_cases c2 : a0 ≥ 0
  · rw [if_pos c2] at H
    have c2b0 : decide (0 ≤ a0) = true := decide_eq_true c2
    clear c2
    obtain rfl := Option.some.inj H
    go_enter Try.func150, Try.ntmps150
    go_wp2
    go_ret
    exact ⟨by first | rfl | (simp; done) | (simp [*]; done), by repeat (first | exact Drawn0.refl _ | apply Drawn0.step)⟩
  · rw [if_neg c2] at H
    have c2b0 : decide (0 ≤ a0) = false := decide_eq_false c2
    clear c2
    obtain rfl := Option.some.inj H
    go_enter Try.func150, Try.ntmps150
    go_wp2
    go_ret
    exact ⟨by first | rfl | (simp; done) | (simp [*]; done), by repeat (first | exact Drawn0.refl _ | apply Drawn0.step)⟩

/-! ### emenderref04_Right: function 105 -/
def emenderref04_Right.j0 : Nat → Int → Bool → Int → Int → Int → Int → Option (Bool)
  | 0, _, _, _, _, _, _ => none
  | k + 1, x4, x20, x127000, x127001, x127002, x127003 => if x20 = true then (if x127001 ≥ 1 then (if x127001 < 16 then (if x127002 ≥ 0 then (if x127002 ≤ 15 then (some (x127003 == 0)) else (some false)) else (some false)) else (some false)) else (some false)) else (if x4 = 2 then (if x127001 = 0 then (if x127002 = 0 then (some (x127003 == 0)) else (some false)) else (some false)) else (some false))
def emenderref04_Right.f (k : Nat) (a0_0 : Int) (a0_1 : Int) (a0_2 : Int) (a0_3 : Int) : Option (Bool) := if a0_0 = 0 then (if a0_1 = 0 then ((emenderref04_Point.f a0_2).bind fun t127 => (if t127 = true then ((emenderref03_Right.f a0_3).bind fun t128 => (some t128)) else (some false))) else (some false)) else (if a0_0 = 1 then (emenderref04_Right.j0 k a0_0 (a0_0 == 1) a0_0 a0_1 a0_2 a0_3) else (emenderref04_Right.j0 k a0_0 (a0_0 == 3) a0_0 a0_1 a0_2 a0_3))
theorem emenderref04_Right.mono_l : ∀ k, (∀ y0 y1 y2 y3 y4 y5, LeO (emenderref04_Right.j0 k y0 y1 y2 y3 y4 y5) (emenderref04_Right.j0 (k + 1) y0 y1 y2 y3 y4 y5))
  | 0 => fun _ _ _ _ _ _ r h => by simp [emenderref04_Right.j0] at h
  | k + 1 => by
    have ih0 := emenderref04_Right.mono_l k
    · intro y0 y1 y2 y3 y4 y5
      unfold emenderref04_Right.j0
      repeat' first
      | (with_reducible exact ih0 _ _ _ _ _ _)
      | (with_reducible exact LeO.refl _)
      | (with_reducible exact LeO.none _)
      | (with_reducible refine LeO.ite ?_ ?_)
      | (with_reducible refine LeO.bind ?_ (fun _ => ?_))
      | exact ih0 _ _ _ _ _ _
      | exact LeO.none _
      | refine LeO.ite ?_ ?_
      | refine LeO.bind ?_ (fun _ => ?_)
theorem emenderref04_Right.mono : ∀ a0 a1 a2 a3 k, LeO (emenderref04_Right.f k a0 a1 a2 a3) (emenderref04_Right.f (k + 1) a0 a1 a2 a3) := by
  intro a0 a1 a2 a3 k
  have ih0 := emenderref04_Right.mono_l k
  unfold emenderref04_Right.f
  repeat' first
      | (with_reducible exact ih0 _ _ _ _ _ _)
      | (with_reducible exact LeO.refl _)
      | (with_reducible exact LeO.none _)
      | (with_reducible refine LeO.ite ?_ ?_)
      | (with_reducible refine LeO.bind ?_ (fun _ => ?_))
      | exact ih0 _ _ _ _ _ _
      | exact LeO.none _
      | refine LeO.ite ?_ ?_
      | refine LeO.bind ?_ (fun _ => ?_)
set_option maxHeartbeats 8000000 in
set_option maxRecDepth 100000 in
theorem emenderref04_Right.calls (k : Nat) (a0_0 : Int) (a0_1 : Int) (a0_2 : Int) (a0_3 : Int) (r : Bool) (w : World) (h : emenderref04_Right.f k a0_0 a0_1 a0_2 a0_3 = some r) :
    Calls Try.prog 105 #[.agg #[.int .i64 a0_0, .int .i64 a0_1, .int .i64 a0_2, .int .i64 a0_3]] w fun e w' => e = .returned (.bool r) ∧ Below w.heap.size w w' := by
  have hu111 := Try.underlying111
  have HB := Aside0.mk (Below.refl w.heap.size w)
  have H : (if a0_0 = 0 then (if a0_1 = 0 then ((emenderref04_Point.f a0_2).bind fun t127 => (if t127 = true then ((emenderref03_Right.f a0_3).bind fun t128 => (some t128)) else (some false))) else (some false)) else (if a0_0 = 1 then (emenderref04_Right.j0 k a0_0 (a0_0 == 1) a0_0 a0_1 a0_2 a0_3) else (emenderref04_Right.j0 k a0_0 (a0_0 == 3) a0_0 a0_1 a0_2 a0_3))) = some r := h
  clear h
  by_cases c2 : a0_0 = 0
  · rw [if_pos c2] at H
    have c2b0 : (a0_0 == 0) = true := beq_iff_eq.mpr c2
    have c2b1 : (a0_0 != 0) = false := bne_eq_false_iff_eq.mpr c2
    clear c2
    by_cases c3 : a0_1 = 0
    · rw [if_pos c3] at H
      have c3b0 : (a0_1 == 0) = true := beq_iff_eq.mpr c3
      have c3b1 : (a0_1 != 0) = false := bne_eq_false_iff_eq.mpr c3
      clear c3
      replace H := Option.bind_eq_some_iff.mp H
      obtain ⟨t127, A40, H⟩ := H
      replace H : (if t127 = true then ((emenderref03_Right.f a0_3).bind fun t128 => (some t128)) else (some false)) = some r := H
      have A4 := Aside0.mk A40
      clear A40
      by_cases c5 : t127 = true
      · subst c5
        have H1 : ((emenderref03_Right.f a0_3).bind fun t128 => (some t128)) = some r := by rw [if_pos rfl] at H; exact H
        clear H
        have H := H1
        clear H1
        replace H := Option.bind_eq_some_iff.mp H
        obtain ⟨t128, A60, H⟩ := H
        replace H : (some t128) = some r := H
        have A6 := Aside0.mk A60
        clear A60
        obtain rfl := Option.some.inj H
        go_enter Try.func105, Try.ntmps105
        go_wp2_with (first | ((with_reducible refine gate_dst (N := 1) rfl ?_); refine box_event ?hg (N := 1) ?hd (cs := #[.int .i64 a0_0, .int .i64 a0_1, .int .i64 a0_2, .int .i64 a0_3]) (t := 111) ?hr ?_; (case hd => rfl); (case hg => rfl); (case hr => first | (go_simp; done) | (go_simp; rfl)); intro gb126 hg w7 hbox hb; have n0_ := Aside0.mk (below_step (by repeat (first | (with_reducible first | exact HB.out | apply below_alloc | apply pw_below_drewN | apply below_drew1) | exact HB.out)) hb); have n1_ := Aside0.mk (hbox); have n2_ := Aside0.mk ((by rw [hg]; exact (below_size (by repeat (first | (with_reducible first | exact HB.out | apply below_alloc | apply pw_below_drewN | apply below_drew1) | exact HB.out))) : w.heap.size ≤ gb126)); have n3_ := Aside0.mk ((by rw [hg]; exact (below_size (by repeat (first | (with_reducible first | exact HB.out | apply below_alloc | apply pw_below_drewN | apply below_drew1) | exact HB.out))) : w.heap.size ≤ gb126)); clear HB; have HB := n0_; have BK126 := n1_; have GW126 := n2_; have GE126 := n3_; clear n0_ n1_ n2_ n3_; clear hb hbox hg; have hcz8_0 : w7.cell? ⟨gb126, 0, none⟩ = some (.int .i64 a0_0) := (blk_cell BK126.out 0).trans rfl; have hcz8_1 : w7.cell? ⟨gb126, 1, none⟩ = some (.int .i64 a0_1) := (blk_cell BK126.out 1).trans rfl; have hcz8_2 : w7.cell? ⟨gb126, 2, none⟩ = some (.int .i64 a0_2) := (blk_cell BK126.out 2).trans rfl; have hcz8_3 : w7.cell? ⟨gb126, 3, none⟩ = some (.int .i64 a0_3) := (blk_cell BK126.out 3).trans rfl; have hfz8_0 := blk_frozen BK126.out 0; have hfz8_1 := blk_frozen BK126.out 1; have hfz8_2 := blk_frozen BK126.out 2; have hfz8_3 := blk_frozen BK126.out 3) | (go_at_call 149; (with_reducible refine (emenderref04_Point.calls a0_2 true _ A4.out).mono ?_); rintro e w' ⟨rfl, ⟨nd, rfl⟩⟩) | (go_at_call 150; (with_reducible refine (emenderref03_Right.calls a0_3 t128 _ A6.out).mono ?_); rintro e w' ⟨rfl, ⟨nd, rfl⟩⟩))
        go_ret
        exact ⟨by first | rfl | (simp [errW_none, errW_some] <;> rfl) | (simp [*, errW_none, errW_some] <;> rfl), by repeat (first | (with_reducible first | exact HB.out | apply below_alloc | apply pw_below_drewN | apply below_drew1 | refine below_set ?_ GE126.out) | exact HB.out)⟩
      · replace c5 := Bool.eq_false_iff.mpr c5
        subst c5
        have H1 : (some false) = some r := by rw [if_neg (show ¬ (false = true) by decide)] at H; exact H
        clear H
        have H := H1
        clear H1
        obtain rfl := Option.some.inj H
        go_enter Try.func105, Try.ntmps105
        go_wp2_with (first | ((with_reducible refine gate_dst (N := 1) rfl ?_); refine box_event ?hg (N := 1) ?hd (cs := #[.int .i64 a0_0, .int .i64 a0_1, .int .i64 a0_2, .int .i64 a0_3]) (t := 111) ?hr ?_; (case hd => rfl); (case hg => rfl); (case hr => first | (go_simp; done) | (go_simp; rfl)); intro gb126 hg w9 hbox hb; have n0_ := Aside0.mk (below_step (by repeat (first | (with_reducible first | exact HB.out | apply below_alloc | apply pw_below_drewN | apply below_drew1) | exact HB.out)) hb); have n1_ := Aside0.mk (hbox); have n2_ := Aside0.mk ((by rw [hg]; exact (below_size (by repeat (first | (with_reducible first | exact HB.out | apply below_alloc | apply pw_below_drewN | apply below_drew1) | exact HB.out))) : w.heap.size ≤ gb126)); have n3_ := Aside0.mk ((by rw [hg]; exact (below_size (by repeat (first | (with_reducible first | exact HB.out | apply below_alloc | apply pw_below_drewN | apply below_drew1) | exact HB.out))) : w.heap.size ≤ gb126)); clear HB; have HB := n0_; have BK126 := n1_; have GW126 := n2_; have GE126 := n3_; clear n0_ n1_ n2_ n3_; clear hb hbox hg; have hcz10_0 : w9.cell? ⟨gb126, 0, none⟩ = some (.int .i64 a0_0) := (blk_cell BK126.out 0).trans rfl; have hcz10_1 : w9.cell? ⟨gb126, 1, none⟩ = some (.int .i64 a0_1) := (blk_cell BK126.out 1).trans rfl; have hcz10_2 : w9.cell? ⟨gb126, 2, none⟩ = some (.int .i64 a0_2) := (blk_cell BK126.out 2).trans rfl; have hcz10_3 : w9.cell? ⟨gb126, 3, none⟩ = some (.int .i64 a0_3) := (blk_cell BK126.out 3).trans rfl; have hfz10_0 := blk_frozen BK126.out 0; have hfz10_1 := blk_frozen BK126.out 1; have hfz10_2 := blk_frozen BK126.out 2; have hfz10_3 := blk_frozen BK126.out 3) | (go_at_call 149; (with_reducible refine (emenderref04_Point.calls a0_2 false _ A4.out).mono ?_); rintro e w' ⟨rfl, ⟨nd, rfl⟩⟩))
        go_ret
        exact ⟨by first | rfl | (simp [errW_none, errW_some] <;> rfl) | (simp [*, errW_none, errW_some] <;> rfl), by repeat (first | (with_reducible first | exact HB.out | apply below_alloc | apply pw_below_drewN | apply below_drew1 | refine below_set ?_ GE126.out) | exact HB.out)⟩
    · rw [if_neg c3] at H
      have c3b0 : (a0_1 == 0) = false := beq_eq_false_iff_ne.mpr c3
      have c3b1 : (a0_1 != 0) = true := bne_iff_ne.mpr c3
      obtain rfl := Option.some.inj H
      go_enter Try.func105, Try.ntmps105
      go_wp2_with (first | ((with_reducible refine gate_dst (N := 1) rfl ?_); refine box_event ?hg (N := 1) ?hd (cs := #[.int .i64 a0_0, .int .i64 a0_1, .int .i64 a0_2, .int .i64 a0_3]) (t := 111) ?hr ?_; (case hd => rfl); (case hg => rfl); (case hr => first | (go_simp; done) | (go_simp; rfl)); intro gb126 hg w11 hbox hb; have n0_ := Aside0.mk (below_step (by repeat (first | (with_reducible first | exact HB.out | apply below_alloc | apply pw_below_drewN | apply below_drew1) | exact HB.out)) hb); have n1_ := Aside0.mk (hbox); have n2_ := Aside0.mk ((by rw [hg]; exact (below_size (by repeat (first | (with_reducible first | exact HB.out | apply below_alloc | apply pw_below_drewN | apply below_drew1) | exact HB.out))) : w.heap.size ≤ gb126)); have n3_ := Aside0.mk ((by rw [hg]; exact (below_size (by repeat (first | (with_reducible first | exact HB.out | apply below_alloc | apply pw_below_drewN | apply below_drew1) | exact HB.out))) : w.heap.size ≤ gb126)); clear HB; have HB := n0_; have BK126 := n1_; have GW126 := n2_; have GE126 := n3_; clear n0_ n1_ n2_ n3_; clear hb hbox hg; have hcz12_0 : w11.cell? ⟨gb126, 0, none⟩ = some (.int .i64 a0_0) := (blk_cell BK126.out 0).trans rfl; have hcz12_1 : w11.cell? ⟨gb126, 1, none⟩ = some (.int .i64 a0_1) := (blk_cell BK126.out 1).trans rfl; have hcz12_2 : w11.cell? ⟨gb126, 2, none⟩ = some (.int .i64 a0_2) := (blk_cell BK126.out 2).trans rfl; have hcz12_3 : w11.cell? ⟨gb126, 3, none⟩ = some (.int .i64 a0_3) := (blk_cell BK126.out 3).trans rfl; have hfz12_0 := blk_frozen BK126.out 0; have hfz12_1 := blk_frozen BK126.out 1; have hfz12_2 := blk_frozen BK126.out 2; have hfz12_3 := blk_frozen BK126.out 3))
      go_ret
      exact ⟨by first | rfl | (simp [errW_none, errW_some] <;> rfl) | (simp [*, errW_none, errW_some] <;> rfl), by repeat (first | (with_reducible first | exact HB.out | apply below_alloc | apply pw_below_drewN | apply below_drew1 | refine below_set ?_ GE126.out) | exact HB.out)⟩
  · rw [if_neg c2] at H
    have c2b0 : (a0_0 == 0) = false := beq_eq_false_iff_ne.mpr c2
    have c2b1 : (a0_0 != 0) = true := bne_iff_ne.mpr c2
    have HC13 := Aside0.mk H
    clear H
    go_enter Try.func105, Try.ntmps105
    go_upto_if 20 with (first | ((with_reducible refine gate_dst (N := 1) rfl ?_); refine box_event ?hg (N := 1) ?hd (cs := #[.int .i64 a0_0, .int .i64 a0_1, .int .i64 a0_2, .int .i64 a0_3]) (t := 111) ?hr ?_; (case hd => rfl); (case hg => rfl); (case hr => first | (go_simp; done) | (go_simp; rfl)); intro gb126 hg w14 hbox hb; have n0_ := Aside0.mk (below_step (by repeat (first | (with_reducible first | exact HB.out | apply below_alloc | apply pw_below_drewN | apply below_drew1) | exact HB.out)) hb); have n1_ := Aside0.mk (hbox); have n2_ := Aside0.mk ((by rw [hg]; exact (below_size (by repeat (first | (with_reducible first | exact HB.out | apply below_alloc | apply pw_below_drewN | apply below_drew1) | exact HB.out))) : w.heap.size ≤ gb126)); have n3_ := Aside0.mk ((by rw [hg]; exact (below_size (by repeat (first | (with_reducible first | exact HB.out | apply below_alloc | apply pw_below_drewN | apply below_drew1) | exact HB.out))) : w.heap.size ≤ gb126)); clear HB; have HB := n0_; have BK126 := n1_; have GW126 := n2_; have GE126 := n3_; clear n0_ n1_ n2_ n3_; clear hb hbox hg; have hcz15_0 : w14.cell? ⟨gb126, 0, none⟩ = some (.int .i64 a0_0) := (blk_cell BK126.out 0).trans rfl; have hcz15_1 : w14.cell? ⟨gb126, 1, none⟩ = some (.int .i64 a0_1) := (blk_cell BK126.out 1).trans rfl; have hcz15_2 : w14.cell? ⟨gb126, 2, none⟩ = some (.int .i64 a0_2) := (blk_cell BK126.out 2).trans rfl; have hcz15_3 : w14.cell? ⟨gb126, 3, none⟩ = some (.int .i64 a0_3) := (blk_cell BK126.out 3).trans rfl; have hfz15_0 := blk_frozen BK126.out 0; have hfz15_1 := blk_frozen BK126.out 1; have hfz15_2 := blk_frozen BK126.out 2; have hfz15_3 := blk_frozen BK126.out 3))
    (try simp only [Act.put, List.setIfInBounds_toArray, List.set_cons_zero, List.set_cons_succ])
    go_cut [20] (fun v20 wc => ∃ (kq : Nat) (x20_12 : Bool), v20 = .bool x20_12 ∧ Aside0 (emenderref04_Right.j0 kq a0_0 x20_12 a0_0 a0_1 a0_2 a0_3 = some r) ∧ Aside0 (kq ≤ k) ∧ Aside0 (wc.heap[gb126]? = some (.cells #[.int .i64 a0_0, .int .i64 a0_1, .int .i64 a0_2, .int .i64 a0_3] 111 (0, 0))) ∧ Aside0 (Below w.heap.size w wc))
    case first =>
      have H := HC13.out
      clear HC13
      by_cases c16 : a0_0 = 1
      · rw [if_pos c16] at H
        have c16b0 : (a0_0 == 1) = true := beq_iff_eq.mpr c16
        have c16b1 : (a0_0 != 1) = false := bne_eq_false_iff_eq.mpr c16
        clear c16
        (first | rw [c16b0] | (simp only [i64_w, i32_w]; rw [c16b0]) | skip)
        have H' := Aside0.mk H
        clear H
        go_wp2
        go_meet
        case rel => exact ⟨_, ((a0_0 == 1)), (by first | rfl | (simp; done) | (simp [*]; done)), H', ⟨by first | omega | exact Nat.le_refl _⟩, ⟨by (with_reducible repeat (first | refine blk_drewN ?_ _ | refine blk_drew ?_ | refine blk_alloc ?_ _)); exact BK126.out⟩, ⟨by repeat (first | (with_reducible first | exact HB.out | apply below_alloc | apply pw_below_drewN | apply below_drew1 | refine below_set ?_ GE126.out) | exact HB.out)⟩⟩
      · rw [if_neg c16] at H
        have c16b0 : (a0_0 == 1) = false := beq_eq_false_iff_ne.mpr c16
        have c16b1 : (a0_0 != 1) = true := bne_iff_ne.mpr c16
        (first | rw [c16b0] | (simp only [i64_w, i32_w]; rw [c16b0]) | skip)
        have H' := Aside0.mk H
        clear H
        go_wp2
        go_meet
        case rel => exact ⟨_, ((a0_0 == 3)), (by first | rfl | (simp; done) | (simp [*]; done)), H', ⟨by first | omega | exact Nat.le_refl _⟩, ⟨by (with_reducible repeat (first | refine blk_drewN ?_ _ | refine blk_drew ?_ | refine blk_alloc ?_ _)); exact BK126.out⟩, ⟨by repeat (first | (with_reducible first | exact HB.out | apply below_alloc | apply pw_below_drewN | apply below_drew1 | refine below_set ?_ GE126.out) | exact HB.out)⟩⟩
    case rest =>
      clear HC13
      try clear c1
      try clear c2
      try clear c2b0
      try clear c2b1
      try clear p2
      try clear c3
      try clear c3b0
      try clear c3b1
      try clear c5
      try clear c10
      try clear c16
      try clear c16b0
      try clear c16b1
      try clear hcz10_0
      try clear hcz10_1
      try clear hcz10_2
      try clear hcz10_3
      try clear hcz12_0
      try clear hcz12_1
      try clear hcz12_2
      try clear hcz12_3
      try clear hcz15_0
      try clear hcz15_1
      try clear hcz15_2
      try clear hcz15_3
      try clear hcz8_0
      try clear hcz8_1
      try clear hcz8_2
      try clear hcz8_3
      try clear hfz10_0
      try clear hfz10_1
      try clear hfz10_2
      try clear hfz10_3
      try clear hfz12_0
      try clear hfz12_1
      try clear hfz12_2
      try clear hfz12_3
      try clear hfz15_0
      try clear hfz15_1
      try clear hfz15_2
      try clear hfz15_3
      try clear hfz8_0
      try clear hfz8_1
      try clear hfz8_2
      try clear hfz8_3
      obtain ⟨kq, x20_12, rfl, HA, HJ12, BK126, HB⟩ := hcut
      cases kq with
      | zero => exact absurd HA.out (by simp [emenderref04_Right.j0])
      | succ kj12 =>
        have H := HA.out
        clear HA
        simp only [emenderref04_Right.j0] at H
        by_cases c17 : x20_12 = true
        · subst c17
          have H1 : (if a0_1 ≥ 1 then (if a0_1 < 16 then (if a0_2 ≥ 0 then (if a0_2 ≤ 15 then (some (a0_3 == 0)) else (some false)) else (some false)) else (some false)) else (some false)) = some r := by rw [if_pos rfl] at H; exact H
          clear H
          have H := H1
          clear H1
          by_cases c18 : a0_1 ≥ 1
          · rw [if_pos c18] at H
            have c18b0 : decide (1 ≤ a0_1) = true := decide_eq_true c18
            clear c18
            by_cases c19 : a0_1 < 16
            · rw [if_pos c19] at H
              have c19b0 : decide (a0_1 < 16) = true := decide_eq_true c19
              clear c19
              by_cases c20 : a0_2 ≥ 0
              · rw [if_pos c20] at H
                have c20b0 : decide (0 ≤ a0_2) = true := decide_eq_true c20
                clear c20
                by_cases c21 : a0_2 ≤ 15
                · rw [if_pos c21] at H
                  have c21b0 : decide (a0_2 ≤ 15) = true := decide_eq_true c21
                  clear c21
                  obtain rfl := Option.some.inj H
                  have hcz22_0 : wc.cell? ⟨gb126, 0, none⟩ = some (.int .i64 a0_0) := (blk_cell BK126.out 0).trans rfl
                  have hcz22_1 : wc.cell? ⟨gb126, 1, none⟩ = some (.int .i64 a0_1) := (blk_cell BK126.out 1).trans rfl
                  have hcz22_2 : wc.cell? ⟨gb126, 2, none⟩ = some (.int .i64 a0_2) := (blk_cell BK126.out 2).trans rfl
                  have hcz22_3 : wc.cell? ⟨gb126, 3, none⟩ = some (.int .i64 a0_3) := (blk_cell BK126.out 3).trans rfl
                  have hfz22_0 := blk_frozen BK126.out 0
                  have hfz22_1 := blk_frozen BK126.out 1
                  have hfz22_2 := blk_frozen BK126.out 2
                  have hfz22_3 := blk_frozen BK126.out 3
                  go_wp2
                  go_ret
                  exact ⟨by first | rfl | (simp [errW_none, errW_some] <;> rfl) | (simp [*, errW_none, errW_some] <;> rfl), by repeat (first | (with_reducible first | exact HB.out | apply below_alloc | apply pw_below_drewN | apply below_drew1 | refine below_set ?_ GE126.out) | exact HB.out)⟩
                · rw [if_neg c21] at H
                  have c21b0 : decide (a0_2 ≤ 15) = false := decide_eq_false c21
                  clear c21
                  obtain rfl := Option.some.inj H
                  have hcz23_0 : wc.cell? ⟨gb126, 0, none⟩ = some (.int .i64 a0_0) := (blk_cell BK126.out 0).trans rfl
                  have hcz23_1 : wc.cell? ⟨gb126, 1, none⟩ = some (.int .i64 a0_1) := (blk_cell BK126.out 1).trans rfl
                  have hcz23_2 : wc.cell? ⟨gb126, 2, none⟩ = some (.int .i64 a0_2) := (blk_cell BK126.out 2).trans rfl
                  have hcz23_3 : wc.cell? ⟨gb126, 3, none⟩ = some (.int .i64 a0_3) := (blk_cell BK126.out 3).trans rfl
                  have hfz23_0 := blk_frozen BK126.out 0
                  have hfz23_1 := blk_frozen BK126.out 1
                  have hfz23_2 := blk_frozen BK126.out 2
                  have hfz23_3 := blk_frozen BK126.out 3
                  go_wp2
                  go_ret
                  exact ⟨by first | rfl | (simp [errW_none, errW_some] <;> rfl) | (simp [*, errW_none, errW_some] <;> rfl), by repeat (first | (with_reducible first | exact HB.out | apply below_alloc | apply pw_below_drewN | apply below_drew1 | refine below_set ?_ GE126.out) | exact HB.out)⟩
              · rw [if_neg c20] at H
                have c20b0 : decide (0 ≤ a0_2) = false := decide_eq_false c20
                clear c20
                obtain rfl := Option.some.inj H
                have hcz24_0 : wc.cell? ⟨gb126, 0, none⟩ = some (.int .i64 a0_0) := (blk_cell BK126.out 0).trans rfl
                have hcz24_1 : wc.cell? ⟨gb126, 1, none⟩ = some (.int .i64 a0_1) := (blk_cell BK126.out 1).trans rfl
                have hcz24_2 : wc.cell? ⟨gb126, 2, none⟩ = some (.int .i64 a0_2) := (blk_cell BK126.out 2).trans rfl
                have hcz24_3 : wc.cell? ⟨gb126, 3, none⟩ = some (.int .i64 a0_3) := (blk_cell BK126.out 3).trans rfl
                have hfz24_0 := blk_frozen BK126.out 0
                have hfz24_1 := blk_frozen BK126.out 1
                have hfz24_2 := blk_frozen BK126.out 2
                have hfz24_3 := blk_frozen BK126.out 3
                go_wp2
                go_ret
                exact ⟨by first | rfl | (simp [errW_none, errW_some] <;> rfl) | (simp [*, errW_none, errW_some] <;> rfl), by repeat (first | (with_reducible first | exact HB.out | apply below_alloc | apply pw_below_drewN | apply below_drew1 | refine below_set ?_ GE126.out) | exact HB.out)⟩
            · rw [if_neg c19] at H
              have c19b0 : decide (a0_1 < 16) = false := decide_eq_false c19
              clear c19
              obtain rfl := Option.some.inj H
              have hcz25_0 : wc.cell? ⟨gb126, 0, none⟩ = some (.int .i64 a0_0) := (blk_cell BK126.out 0).trans rfl
              have hcz25_1 : wc.cell? ⟨gb126, 1, none⟩ = some (.int .i64 a0_1) := (blk_cell BK126.out 1).trans rfl
              have hcz25_2 : wc.cell? ⟨gb126, 2, none⟩ = some (.int .i64 a0_2) := (blk_cell BK126.out 2).trans rfl
              have hcz25_3 : wc.cell? ⟨gb126, 3, none⟩ = some (.int .i64 a0_3) := (blk_cell BK126.out 3).trans rfl
              have hfz25_0 := blk_frozen BK126.out 0
              have hfz25_1 := blk_frozen BK126.out 1
              have hfz25_2 := blk_frozen BK126.out 2
              have hfz25_3 := blk_frozen BK126.out 3
              go_wp2
              go_ret
              exact ⟨by first | rfl | (simp [errW_none, errW_some] <;> rfl) | (simp [*, errW_none, errW_some] <;> rfl), by repeat (first | (with_reducible first | exact HB.out | apply below_alloc | apply pw_below_drewN | apply below_drew1 | refine below_set ?_ GE126.out) | exact HB.out)⟩
          · rw [if_neg c18] at H
            have c18b0 : decide (1 ≤ a0_1) = false := decide_eq_false c18
            clear c18
            obtain rfl := Option.some.inj H
            have hcz26_0 : wc.cell? ⟨gb126, 0, none⟩ = some (.int .i64 a0_0) := (blk_cell BK126.out 0).trans rfl
            have hcz26_1 : wc.cell? ⟨gb126, 1, none⟩ = some (.int .i64 a0_1) := (blk_cell BK126.out 1).trans rfl
            have hcz26_2 : wc.cell? ⟨gb126, 2, none⟩ = some (.int .i64 a0_2) := (blk_cell BK126.out 2).trans rfl
            have hcz26_3 : wc.cell? ⟨gb126, 3, none⟩ = some (.int .i64 a0_3) := (blk_cell BK126.out 3).trans rfl
            have hfz26_0 := blk_frozen BK126.out 0
            have hfz26_1 := blk_frozen BK126.out 1
            have hfz26_2 := blk_frozen BK126.out 2
            have hfz26_3 := blk_frozen BK126.out 3
            go_wp2
            go_ret
            exact ⟨by first | rfl | (simp [errW_none, errW_some] <;> rfl) | (simp [*, errW_none, errW_some] <;> rfl), by repeat (first | (with_reducible first | exact HB.out | apply below_alloc | apply pw_below_drewN | apply below_drew1 | refine below_set ?_ GE126.out) | exact HB.out)⟩
        · replace c17 := Bool.eq_false_iff.mpr c17
          subst c17
          have H1 : (if a0_0 = 2 then (if a0_1 = 0 then (if a0_2 = 0 then (some (a0_3 == 0)) else (some false)) else (some false)) else (some false)) = some r := by rw [if_neg (show ¬ (false = true) by decide)] at H; exact H
          clear H
          have H := H1
          clear H1
          by_cases c27 : a0_0 = 2
          · rw [if_pos c27] at H
            have c27b0 : (a0_0 == 2) = true := beq_iff_eq.mpr c27
            have c27b1 : (a0_0 != 2) = false := bne_eq_false_iff_eq.mpr c27
            clear c27
            by_cases c28 : a0_1 = 0
            · rw [if_pos c28] at H
              have c28b0 : (a0_1 == 0) = true := beq_iff_eq.mpr c28
              have c28b1 : (a0_1 != 0) = false := bne_eq_false_iff_eq.mpr c28
              clear c28
              by_cases c29 : a0_2 = 0
              · rw [if_pos c29] at H
                have c29b0 : (a0_2 == 0) = true := beq_iff_eq.mpr c29
                have c29b1 : (a0_2 != 0) = false := bne_eq_false_iff_eq.mpr c29
                clear c29
                obtain rfl := Option.some.inj H
                have hcz30_0 : wc.cell? ⟨gb126, 0, none⟩ = some (.int .i64 a0_0) := (blk_cell BK126.out 0).trans rfl
                have hcz30_1 : wc.cell? ⟨gb126, 1, none⟩ = some (.int .i64 a0_1) := (blk_cell BK126.out 1).trans rfl
                have hcz30_2 : wc.cell? ⟨gb126, 2, none⟩ = some (.int .i64 a0_2) := (blk_cell BK126.out 2).trans rfl
                have hcz30_3 : wc.cell? ⟨gb126, 3, none⟩ = some (.int .i64 a0_3) := (blk_cell BK126.out 3).trans rfl
                have hfz30_0 := blk_frozen BK126.out 0
                have hfz30_1 := blk_frozen BK126.out 1
                have hfz30_2 := blk_frozen BK126.out 2
                have hfz30_3 := blk_frozen BK126.out 3
                go_wp2
                go_ret
                exact ⟨by first | rfl | (simp [errW_none, errW_some] <;> rfl) | (simp [*, errW_none, errW_some] <;> rfl), by repeat (first | (with_reducible first | exact HB.out | apply below_alloc | apply pw_below_drewN | apply below_drew1 | refine below_set ?_ GE126.out) | exact HB.out)⟩
              · rw [if_neg c29] at H
                have c29b0 : (a0_2 == 0) = false := beq_eq_false_iff_ne.mpr c29
                have c29b1 : (a0_2 != 0) = true := bne_iff_ne.mpr c29
                obtain rfl := Option.some.inj H
                have hcz31_0 : wc.cell? ⟨gb126, 0, none⟩ = some (.int .i64 a0_0) := (blk_cell BK126.out 0).trans rfl
                have hcz31_1 : wc.cell? ⟨gb126, 1, none⟩ = some (.int .i64 a0_1) := (blk_cell BK126.out 1).trans rfl
                have hcz31_2 : wc.cell? ⟨gb126, 2, none⟩ = some (.int .i64 a0_2) := (blk_cell BK126.out 2).trans rfl
                have hcz31_3 : wc.cell? ⟨gb126, 3, none⟩ = some (.int .i64 a0_3) := (blk_cell BK126.out 3).trans rfl
                have hfz31_0 := blk_frozen BK126.out 0
                have hfz31_1 := blk_frozen BK126.out 1
                have hfz31_2 := blk_frozen BK126.out 2
                have hfz31_3 := blk_frozen BK126.out 3
                go_wp2
                go_ret
                exact ⟨by first | rfl | (simp [errW_none, errW_some] <;> rfl) | (simp [*, errW_none, errW_some] <;> rfl), by repeat (first | (with_reducible first | exact HB.out | apply below_alloc | apply pw_below_drewN | apply below_drew1 | refine below_set ?_ GE126.out) | exact HB.out)⟩
            · rw [if_neg c28] at H
              have c28b0 : (a0_1 == 0) = false := beq_eq_false_iff_ne.mpr c28
              have c28b1 : (a0_1 != 0) = true := bne_iff_ne.mpr c28
              obtain rfl := Option.some.inj H
              have hcz32_0 : wc.cell? ⟨gb126, 0, none⟩ = some (.int .i64 a0_0) := (blk_cell BK126.out 0).trans rfl
              have hcz32_1 : wc.cell? ⟨gb126, 1, none⟩ = some (.int .i64 a0_1) := (blk_cell BK126.out 1).trans rfl
              have hcz32_2 : wc.cell? ⟨gb126, 2, none⟩ = some (.int .i64 a0_2) := (blk_cell BK126.out 2).trans rfl
              have hcz32_3 : wc.cell? ⟨gb126, 3, none⟩ = some (.int .i64 a0_3) := (blk_cell BK126.out 3).trans rfl
              have hfz32_0 := blk_frozen BK126.out 0
              have hfz32_1 := blk_frozen BK126.out 1
              have hfz32_2 := blk_frozen BK126.out 2
              have hfz32_3 := blk_frozen BK126.out 3
              go_wp2
              go_ret
              exact ⟨by first | rfl | (simp [errW_none, errW_some] <;> rfl) | (simp [*, errW_none, errW_some] <;> rfl), by repeat (first | (with_reducible first | exact HB.out | apply below_alloc | apply pw_below_drewN | apply below_drew1 | refine below_set ?_ GE126.out) | exact HB.out)⟩
          · rw [if_neg c27] at H
            have c27b0 : (a0_0 == 2) = false := beq_eq_false_iff_ne.mpr c27
            have c27b1 : (a0_0 != 2) = true := bne_iff_ne.mpr c27
            obtain rfl := Option.some.inj H
            go_wp2
            go_ret
            exact ⟨by first | rfl | (simp [errW_none, errW_some] <;> rfl) | (simp [*, errW_none, errW_some] <;> rfl), by repeat (first | (with_reducible first | exact HB.out | apply below_alloc | apply pw_below_drewN | apply below_drew1 | refine below_set ?_ GE126.out) | exact HB.out)⟩

end Go.Proofs.Ytmbnjgnmblgjoaa.K
end

-- CheckMath
section
/- What the program's checks of tokens, steps, entries come to: closed forms of the printed functions. Plain: no program's run. -/


namespace Go.Proofs.Ytmbnjgnmblgjoaa.Man
open Go.RowKit Go.Proofs.YtmbnjgnmblgjoaaW.PrintWords Go.Proofs.YtmbnjgnmblgjoaaW.PrintLast Go.Proofs.YtmbnjgnmblgjoaaW.PrintMore
set_option linter.unusedVariables false
set_option linter.unusedSimpArgs false

/-- A token that may be. -/
def rightB (x : K.S111) : Bool := decide ((x.f0 = 0 ∧ x.f1 = 0 ∧ 0 ≤ x.f2 ∧ x.f2 ≤ 1114111 ∧ x.f2 / 2048 ≠ 27 ∧ 0 ≤ x.f3 ∧ x.f3 ≤ 4) ∨ (x.f0 = 2 ∧ x.f1 = 0 ∧ x.f2 = 0 ∧ x.f3 = 0) ∨ ((x.f0 = 1 ∨ x.f0 = 3) ∧ 0 < x.f1 ∧ x.f1 < 16 ∧ 0 ≤ x.f2 ∧ x.f2 < 16 ∧ x.f3 = 0))
theorem right_f (x : K.S111) : K.flat_Right.f x.f0 x.f1 x.f2 x.f3 = some (rightB x) := by
  obtain ⟨k, t, n, m⟩ := x
  unfold K.flat_Right.f K.mark_Right.f rightB
  simp only
  by_cases h0 : k = 0
  · subst h0
    rw [if_pos rfl]
    by_cases a : t = 0
    · rw [if_pos a]
      by_cases b : n ≥ 0
      · rw [if_pos b]
        by_cases c : n ≤ 1114111
        · rw [if_pos c]
          by_cases d : n / 2048 = 27
          · rw [if_pos d]; congr 1; symm; rw [decide_eq_false_iff_not]; omega
          · rw [if_neg d]
            by_cases e : m ≥ 0
            · rw [if_pos e]; simp only [Option.bind_some]; congr 1; rw [Bool.eq_iff_iff]; simp only [decide_eq_true_eq]
              constructor
              · intro h; exact .inl ⟨trivial, a, b, c, d, e, h⟩
              · rintro (h | h | h) <;> omega
            · rw [if_neg e]; simp only [Option.bind_some]; congr 1; symm; rw [decide_eq_false_iff_not]; omega
        · rw [if_neg c]; congr 1; symm; rw [decide_eq_false_iff_not]; omega
      · rw [if_neg b]; congr 1; symm; rw [decide_eq_false_iff_not]; omega
    · rw [if_neg a]; congr 1; symm; rw [decide_eq_false_iff_not]; omega
  · rw [if_neg h0]
    by_cases h2 : k = 2
    · subst h2
      rw [if_pos rfl]; congr 1
      rw [Bool.eq_iff_iff]; simp
    · rw [if_neg h2]
      have go : ∀ k : Int, ¬ k = 0 → ¬ k = 2 → (k = 1 ∨ k = 3) → (if t > 0 then (if t < 16 then (if n ≥ 0 then (if n < 16 then (some (m == 0)) else (some false)) else (some false)) else (some false)) else (some false)) = some (decide ((k = 0 ∧ t = 0 ∧ 0 ≤ n ∧ n ≤ 1114111 ∧ n / 2048 ≠ 27 ∧ 0 ≤ m ∧ m ≤ 4) ∨ (k = 2 ∧ t = 0 ∧ n = 0 ∧ m = 0) ∨ ((k = 1 ∨ k = 3) ∧ 0 < t ∧ t < 16 ∧ 0 ≤ n ∧ n < 16 ∧ m = 0))) := by
        intro k q0 q2 q
        by_cases a : t > 0
        · rw [if_pos a]
          by_cases b : t < 16
          · rw [if_pos b]
            by_cases c : n ≥ 0
            · rw [if_pos c]
              by_cases d : n < 16
              · rw [if_pos d]; congr 1; rw [Bool.eq_iff_iff]; simp only [beq_iff_eq, decide_eq_true_eq]; omega
              · rw [if_neg d]; congr 1; symm; rw [decide_eq_false_iff_not]; omega
            · rw [if_neg c]; congr 1; symm; rw [decide_eq_false_iff_not]; omega
          · rw [if_neg b]; congr 1; symm; rw [decide_eq_false_iff_not]; omega
        · rw [if_neg a]; congr 1; symm; rw [decide_eq_false_iff_not]; omega
      by_cases h1 : k = 1
      · rw [if_pos h1]; exact go k h0 h2 (.inl h1)
      · rw [if_neg h1]
        by_cases h3 : k = 3
        · rw [if_pos h3]; exact go k h0 h2 (.inr h3)
        · rw [if_neg h3]; congr 1; symm; rw [decide_eq_false_iff_not]; omega

theorem rd_nat (l : List K.S111) (j : Nat) (h : j < l.length) : K.rd_T111 l (j : Int) = l[j] := by
  unfold K.rd_T111
  rw [Int.toNat_natCast, List.getD_eq_getElem?_getD, List.getElem?_eq_getElem h]
  rfl
theorem wrap_succ (j : Nat) (h : j < 9223372036854775807) : wrap64 ((j : Int) + 1) = ((j + 1 : Nat) : Int) := by unfold wrap64; omega
theorem doc_l0 (l : List K.S111) (hl : l.length ≤ 2048) : ∀ (d j k : Nat), l.length = j + d → d < k → K.codec_doc.l0 k l (l.length : Int) (j : Int) = some (if (l.drop j).all rightB then 0 else 1) := by
  intro d
  induction d with
  | zero =>
    intro j k h hk
    obtain ⟨k, rfl⟩ : ∃ m, k = m + 1 := ⟨k - 1, by omega⟩
    rw [K.codec_doc.l0, if_neg (by omega), List.drop_of_length_le (by omega)]
    rfl
  | succ d ih =>
    intro j k h hk
    obtain ⟨k, rfl⟩ : ∃ m, k = m + 1 := ⟨k - 1, by omega⟩
    rw [K.codec_doc.l0, if_pos (by omega), if_pos (by omega), if_pos (by omega), right_f, Option.bind_some, rd_nat l j (by omega), wrap_succ j (by omega), ih (j + 1) k (by omega) (by omega)]
    have e : l.drop j = l[j] :: l.drop (j + 1) := by rw [List.drop_eq_getElem_cons]
    rw [e, List.all_cons]
    by_cases hr : rightB l[j] = true
    · rw [if_pos hr, hr, Bool.true_and]
    · rw [if_neg hr]
      have : rightB l[j] = false := by simpa using hr
      rw [this, Bool.false_and]
      rfl
/-- Why tokens can't be written. -/
def docE (l : List K.S111) : Int := if 2048 < l.length then 2 else if l.all rightB then 0 else 1
theorem doc_f (l : List K.S111) : K.codec_doc.f 2050 l = some (docE l) := by
  unfold K.codec_doc.f docE
  by_cases h : 2048 < l.length
  · rw [if_pos (by omega), if_pos h]
  · rw [if_neg (by omega), if_neg h]
    have := doc_l0 l (by omega) l.length 0 2050 (by omega) (by omega)
    rw [List.drop_zero] at this
    exact this

/-! ### Steps -/
def oneMark (m : Int) : Bool := m == 1 || (m == 2 || m == 4)
theorem place1 (k : Nat) : K.mark_place.f (k + 4) 1 = some 0 ∧ K.mark_place.f (k + 4) 2 = some 1 ∧ K.mark_place.f (k + 4) 4 = some 2 := by
  have s0 : shl .i64 1 0 = 1 := by decide +kernel
  have s1 : shl .i64 1 1 = 2 := by decide +kernel
  have s2 : shl .i64 1 2 = 4 := by decide +kernel
  have w0 : wrap64 (1 : Int) = 1 := by decide +kernel
  have w1 : wrap64 (2 : Int) = 2 := by decide +kernel
  unfold K.mark_place.f
  simp [K.mark_place.l0, s0, s1, s2, w0, w1]
theorem marks_out (m : Int) (h : m < 0 ∨ 4 < m) (k : Nat) : K.mark_List.f (k + 9) m = some [] := by
  have s0 : shl .i64 1 0 = 1 := by decide +kernel
  have s1 : shl .i64 1 1 = 2 := by decide +kernel
  have s2 : shl .i64 1 2 = 4 := by decide +kernel
  have w0 : wrap64 (1 : Int) = 1 := by decide +kernel
  have w1 : wrap64 (2 : Int) = 2 := by decide +kernel
  have w2 : wrap64 (3 : Int) = 3 := by decide +kernel
  have hr : K.mark_Right.f m = some false := by
    unfold K.mark_Right.f
    by_cases a : m ≥ 0
    · rw [if_pos a]; congr 1; rw [decide_eq_false_iff_not]; omega
    · rw [if_neg a]
  have hh : ∀ j : Nat, K.mark_Has.f (j + 4) m 1 = some false ∧ K.mark_Has.f (j + 4) m 2 = some false ∧ K.mark_Has.f (j + 4) m 4 = some false := by
    intro j
    obtain ⟨p0, p1, p2⟩ := place1 j
    unfold K.mark_Has.f K.mark_may.f
    simp [p0, p1, p2, hr]
  have h8 := (hh (k + 4)).1
  have h7 := (hh (k + 3)).2.1
  have h6 := (hh (k + 2)).2.2
  unfold K.mark_List.f
  simp [K.mark_List.l0, s0, s1, s2, w0, w1, w2, h8, h7, h6]
theorem marks_in (m : Fin 5) : K.mark_List.f 9 (m.val : Int) = some (if m.val = 1 then [1] else if m.val = 2 then [2] else if m.val = 3 then [1, 2] else if m.val = 4 then [4] else []) := by
  revert m
  decide +kernel
theorem LeO.le {α : Type} {f : Nat → Option α} (h : ∀ k, LeO (f k) (f (k + 1))) {a b : Nat} (hab : a ≤ b) {r : α} (hr : f a = some r) : f b = some r := by
  induction hab with
  | refl => exact hr
  | step _ ih => exact h _ _ ih
theorem marks_len (m : Int) (k : Nat) (hk : 9 ≤ k) : ∃ l, K.mark_List.f k m = some l ∧ ((l.length : Int) = 1 ↔ oneMark m = true) := by
  by_cases h : m < 0 ∨ 4 < m
  · obtain ⟨j, rfl⟩ : ∃ j, k = j + 9 := ⟨k - 9, by omega⟩
    refine ⟨[], marks_out m h j, ?_⟩
    unfold oneMark
    simp
    omega
  · obtain ⟨n, hn⟩ : ∃ n : Fin 5, m = (n.val : Int) := ⟨⟨m.toNat, by omega⟩, by show m = (m.toNat : Int); omega⟩
    refine ⟨_, LeO.le (f := fun k => K.mark_List.f k m) (fun k => K.mark_List.mono m k) hk (by show K.mark_List.f 9 m = _; rw [hn]; exact marks_in n), ?_⟩
    rw [hn]
    unfold oneMark
    revert n
    intro n
    match n with
    | 0 => intros; decide
    | 1 => intros; decide
    | 2 => intros; decide
    | 3 => intros; decide
    | 4 => intros; decide

theorem step_l0 (l : List K.S111) (hl : l.length ≤ 2048) : ∀ (d j k : Nat) (b : Bool), l.length = j + d → d < k → K.step_Check.l0 k b l (l.length : Int) (j : Int) = some (if b && (l.drop j).all rightB then 0 else 1) := by
  intro d
  induction d with
  | zero =>
    intro j k b h hk
    obtain ⟨k, rfl⟩ : ∃ m, k = m + 1 := ⟨k - 1, by omega⟩
    rw [K.step_Check.l0, if_neg (by omega), List.drop_of_length_le (by omega)]
    cases b <;> rfl
  | succ d ih =>
    intro j k b h hk
    obtain ⟨k, rfl⟩ : ∃ m, k = m + 1 := ⟨k - 1, by omega⟩
    have e : l.drop j = l[j] :: l.drop (j + 1) := by rw [List.drop_eq_getElem_cons]
    rw [K.step_Check.l0, if_pos (by omega), if_pos (by omega), if_pos (by omega), right_f, Option.bind_some, rd_nat l j (by omega), wrap_succ j (by omega), ih (j + 1) k _ (by omega) (by omega), ih (j + 1) k _ (by omega) (by omega), e, List.all_cons]
    cases b
    · simp
    · simp only [if_true, Bool.true_and]
/-- A step that may be. -/
def gaps0 (x : K.S24) : Bool := x.f3 == 0 && (x.f4 == 0 && x.f5 == 0)
def kindOk (x : K.S24) : Bool :=
  if x.f0 = 1 then decide (x.f1 ≤ x.f3 ∧ x.f3 < x.f4 ∧ x.f4 ≤ x.f2 ∧ 0 ≤ x.f5 ∧ x.f5 ≤ (x.f6.length : Int) ∧ x.f7 = 0)
  else if x.f0 = 0 then x.f7 == 0 && gaps0 x
  else if x.f0 = 2 ∨ x.f0 = 3 then decide (x.f1 < x.f2) && (oneMark x.f7 && ((x.f6.length : Int) == 0 && gaps0 x)) else false
def stepOk (x : K.S24) : Bool := decide (0 ≤ x.f1 ∧ x.f1 ≤ x.f2 ∧ x.f2 ≤ 2048) && (kindOk x && x.f6.all rightB)
def stepE (x : K.S24) : Int := if 2048 < x.f6.length then 2 else if stepOk x then 0 else 1

theorem step_j2 (k : Nat) (b : Bool) (a0 a1 a2 a3 a4 a5 : Int) (l : List K.S111) (a7 : Int) (hl : l.length ≤ 2048) (hk : 2050 ≤ k) : K.step_Check.j2 k b a0 a1 a2 a3 a4 a5 l a7 = some (if b && l.all rightB then 0 else 1) := by
  obtain ⟨k, rfl⟩ : ∃ m, k = m + 1 := ⟨k - 1, by omega⟩
  rw [K.step_Check.j2]
  have := step_l0 l hl l.length 0 k b (by omega) (by omega)
  rw [List.drop_zero] at this
  exact this
theorem step_j1 (k : Nat) (b : Bool) (a0 a1 a2 a3 a4 a5 : Int) (l : List K.S111) (a7 c0 c1 c2 c3 c4 c5 c7 : Int) (hl : l.length ≤ 2048) (hk : 2051 ≤ k) : K.step_Check.j1 k b a0 a1 a2 a3 a4 a5 l a7 c0 c1 c2 c3 c4 c5 c7 = some (if (b && (c3 == 0 && (c4 == 0 && c5 == 0))) && l.all rightB then 0 else 1) := by
  obtain ⟨k, rfl⟩ : ∃ m, k = m + 1 := ⟨k - 1, by omega⟩
  rw [K.step_Check.j1]
  simp only [step_j2 k _ _ _ _ _ _ _ _ _ hl (show 2050 ≤ k by omega)]
  cases b
  · simp
  · by_cases h3 : c3 = 0
    · by_cases h4 : c4 = 0
      · simp [h3, h4]
      · simp [h3, h4]
    · simp [h3]
theorem dec_and (p q : Prop) [Decidable p] [Decidable q] : decide (p ∧ q) = (decide p && decide q) := by
  by_cases p <;> by_cases q <;> simp_all
theorem step_j0 (k : Nat) (b : Bool) (x : K.S24) (c0 c1 c2 : Int) (hl : x.f6.length ≤ 2048) (hk : 2052 ≤ k) :
    K.step_Check.j0 k b x.f0 x.f1 x.f2 x.f3 x.f4 x.f5 x.f6 x.f7 c0 c1 c2 x.f3 x.f4 x.f5 x.f7 = some (if (b && kindOk x) && x.f6.all rightB then 0 else 1) := by
  obtain ⟨k, rfl⟩ : ∃ m, k = m + 1 := ⟨k - 1, by omega⟩
  obtain ⟨a0, a1, a2, a3, a4, a5, l, a7⟩ := x
  simp only at hl ⊢
  obtain ⟨ml, hm, hmi⟩ := marks_len a7 k (by omega)
  rw [K.step_Check.j0]
  simp only [step_j1 k _ _ _ _ _ _ _ _ _ _ _ _ _ _ _ _ hl (show 2051 ≤ k by omega), hm, Option.bind_some]
  unfold kindOk gaps0
  simp only
  by_cases h1 : a0 = 1
  · rw [if_pos h1, if_pos h1]
    cases b
    · simp
    · simp only [dec_and]
      by_cases q1 : a1 ≤ a3
      · by_cases q2 : a3 < a4
        · by_cases q3 : a4 ≤ a2
          · by_cases q4 : a5 ≥ 0
            · by_cases q5 : a5 ≤ (l.length : Int)
              · simp [q1, q2, q3, q4, q5]
              · simp [q1, q2, q3, q4, q5]
            · simp [q1, q2, q3, q4]
          · simp [q1, q2, q3]
        · simp [q1, q2]
      · simp [q1]
  · rw [if_neg h1, if_neg h1]
    by_cases h0 : a0 = 0
    · rw [if_pos h0, if_pos h0]
      cases b
      · simp
      · simp
    · rw [if_neg h0, if_neg h0]
      have two : ∀ b : Bool, (if b = true then if a1 < a2 then if (ml.length : Int) = 1 then some (if ((l.length : Int) == 0 && (a3 == 0 && (a4 == 0 && a5 == 0)) && l.all rightB) = true then (0 : Int) else 1) else some (if (false && (a3 == 0 && (a4 == 0 && a5 == 0)) && l.all rightB) = true then 0 else 1)
          else some (if (false && (a3 == 0 && (a4 == 0 && a5 == 0)) && l.all rightB) = true then 0 else 1) else some (if (false && (a3 == 0 && (a4 == 0 && a5 == 0)) && l.all rightB) = true then 0 else 1)) =
          some (if (b && (decide (a1 < a2) && (oneMark a7 && ((l.length : Int) == 0 && (a3 == 0 && (a4 == 0 && a5 == 0))))) && l.all rightB) = true then 0 else 1) := by
        intro b
        cases b
        · simp
        · by_cases q1 : a1 < a2
          · by_cases q2 : (ml.length : Int) = 1
            · have := hmi.1 q2
              simp [q1, q2, this]
            · have : oneMark a7 = false := by rcases Bool.eq_false_or_eq_true (oneMark a7) with h | h; exact absurd (hmi.2 h) q2; exact h
              simp [q1, q2, this]
          · simp [q1]
      by_cases h2 : a0 = 2
      · rw [if_pos h2, if_pos (show a0 = 2 ∨ a0 = 3 from .inl h2)]; exact two b
      · rw [if_neg h2]
        by_cases h3 : a0 = 3
        · rw [if_pos h3, if_pos (show a0 = 2 ∨ a0 = 3 from .inr h3)]; exact two b
        · rw [if_neg h3, if_neg (show ¬ (a0 = 2 ∨ a0 = 3) by omega)]
          simp
theorem step_f (x : K.S24) : K.step_Check.f 2060 x.f0 x.f1 x.f2 x.f3 x.f4 x.f5 x.f6 x.f7 = some (stepE x) := by
  unfold K.step_Check.f stepE stepOk
  by_cases h : 2048 < x.f6.length
  · rw [if_pos (by omega), if_pos h]
  · rw [if_neg (by omega), if_neg h]
    simp only [step_j0 2060 _ x _ _ _ (show x.f6.length ≤ 2048 by omega) (by decide)]
    by_cases a : x.f1 ≥ 0
    · by_cases b : x.f1 ≤ x.f2
      · simp only [dec_and]
        simp [a, b, Bool.and_assoc]
      · simp [a, b]
    · simp [a]
/-- Why an entry can't be written. -/
def entryE (x : K.S26) : Int := if x.f0 < 0 ∨ x.f1 < 0 ∨ 4 ≤ x.f0 ∨ 2147483647 < x.f1 then 1 else stepE x.f2
theorem entry_f (x : K.S26) : K.codec_entry.f 2060 x.f0 x.f1 x.f2.f0 x.f2.f1 x.f2.f2 x.f2.f3 x.f2.f4 x.f2.f5 x.f2.f6 x.f2.f7 = some (entryE x) := by
  unfold K.codec_entry.f entryE
  have hmn : (mn x.f0 x.f1) < 0 ↔ x.f0 < 0 ∨ x.f1 < 0 := by unfold mn; split <;> omega
  by_cases a : x.f0 < 0 ∨ x.f1 < 0
  · rw [if_pos (hmn.2 a), if_pos (by omega)]
  · rw [if_neg (fun h => a (hmn.1 h))]
    by_cases b : x.f0 ≥ 4
    · rw [if_pos b, if_pos (by omega)]
    · rw [if_neg b]
      by_cases c : x.f1 > 2147483647
      · rw [if_pos c, if_pos (by omega)]
      · rw [if_neg c, if_neg (by omega), step_f x.f2, Option.bind_some]
end Go.Proofs.Ytmbnjgnmblgjoaa.Man
end

-- Puts
section
/- codec.PutDoc, PutEntry of the given program: what they come to. -/


namespace Go.Proofs.Ytmbnjgnmblgjoaa.Man
open Go.RowKit Go.Proofs.YtmbnjgnmblgjoaaW.PrintWords Go.Proofs.YtmbnjgnmblgjoaaW.PrintLast Go.Proofs.YtmbnjgnmblgjoaaW.PrintMore
set_option linter.unusedVariables false
set_option linter.unusedSimpArgs false
set_option maxRecDepth 100000

theorem doc_is (A : Option Addr) (c : Nat) (l : List K.S111) (w : World) (hr : Kd.C K.k111 w A l.length l) (hc : l.length ≤ c) :
    Calls Try.prog 103 #[.slice A l.length c] w fun e w' => e = .returned (.int .i64 (docE l)) ∧ Below w.heap.size w w' :=
  K.codec_doc.calls 2050 A c l _ w hr hc (doc_f l)
/-- An entry's cells. -/
abbrev entV (x : K.S26) (A : Option Addr) (c : Nat) : Value := .agg #[.int .i64 x.f0, .int .i64 x.f1, .int .i64 x.f2.f0, .int .i64 x.f2.f1, .int .i64 x.f2.f2, .int .i64 x.f2.f3, .int .i64 x.f2.f4, .int .i64 x.f2.f5, .slice A x.f2.f6.length c, .int .i64 x.f2.f7]
theorem entry_is (x : K.S26) (A : Option Addr) (c : Nat) (w : World) (hr : Kd.C K.k111 w A x.f2.f6.length x.f2.f6) (hc : x.f2.f6.length ≤ c) :
    Calls Try.prog 87 #[entV x A c] w fun e w' => e = .returned (.int .i64 (entryE x)) ∧ Below w.heap.size w w' :=
  K.codec_entry.calls 2060 _ _ _ _ _ _ _ _ A c _ _ _ w hr hc (entry_f x)

theorem right_tok {x : K.S111} (h : rightB x = true) : TokOk x := by
  unfold rightB at h
  rw [decide_eq_true_eq] at h
  unfold TokOk
  omega
theorem docE_zero {l : List K.S111} (h : docE l = 0) : l.length ≤ 2048 ∧ ∀ x ∈ l, rightB x = true := by
  unfold docE at h
  split at h
  · cases h
  · split at h
    · rename_i h1 h2
      exact ⟨by omega, List.all_eq_true.1 h2⟩
    · cases h
/-- Tokens' bytes, and why there are none. -/
def putDocF (l : List K.S111) : List Int × Int := (if docE l = 0 then docB l else [], docE l)
def putEntryF (x : K.S26) : List Int × Int := (if entryE x = 0 then entryB x else [], entryE x)

/-- An entry that lies in a block. -/
def EntAt (w : World) (P : Nat) (x : K.S26) (A : Option Addr) (c : Nat) : Prop := w.heap[P]? = some (.cells #[.int .i64 x.f0, .int .i64 x.f1, .int .i64 x.f2.f0, .int .i64 x.f2.f1, .int .i64 x.f2.f2, .int .i64 x.f2.f3, .int .i64 x.f2.f4, .int .i64 x.f2.f5, .slice A x.f2.f6.length c, .int .i64 x.f2.f7] 26 (0, 0))
theorem EntAt.lt {w : World} {P c : Nat} {x : K.S26} {A : Option Addr} (h : EntAt w P x A c) : P < w.heap.size := (Array.getElem?_eq_some_iff.1 h).1
theorem EntAt.c {w : World} {P c : Nat} {x : K.S26} {A : Option Addr} (h : EntAt w P x A c) : w.cell? ⟨P, 0, none⟩ = some (.int .i64 x.f0) ∧ w.cell? ⟨P, 1, none⟩ = some (.int .i64 x.f1) ∧ w.cell? ⟨P, 2, none⟩ = some (.int .i64 x.f2.f0) ∧ w.cell? ⟨P, 3, none⟩ = some (.int .i64 x.f2.f1) ∧ w.cell? ⟨P, 4, none⟩ = some (.int .i64 x.f2.f2) ∧
    w.cell? ⟨P, 5, none⟩ = some (.int .i64 x.f2.f3) ∧ w.cell? ⟨P, 6, none⟩ = some (.int .i64 x.f2.f4) ∧ w.cell? ⟨P, 7, none⟩ = some (.int .i64 x.f2.f5) ∧ w.cell? ⟨P, 8, none⟩ = some (.slice A x.f2.f6.length c) ∧ w.cell? ⟨P, 9, none⟩ = some (.int .i64 x.f2.f7) := by
  simp [World.cell?, show w.heap[P]? = _ from h]

end Go.Proofs.Ytmbnjgnmblgjoaa.Man
end

-- PutMsg
section
/- codec.message, codec.PutMsg of the given program: what they come to. -/

namespace Go.Proofs.Ytmbnjgnmblgjoaa.Man
open Go.RowKit Go.Proofs.YtmbnjgnmblgjoaaW.PrintWords Go.Proofs.YtmbnjgnmblgjoaaW.PrintLast Go.Proofs.YtmbnjgnmblgjoaaW.PrintMore
set_option linter.unusedVariables false
set_option linter.unusedSimpArgs false
set_option maxRecDepth 100000
attribute [local go_sem] max2_int min2_int max_two min_two max_three min_three

/-- A message. -/
structure MsgL where
  k : Int
  who : Int
  ver : Int
  l : List K.S26
def firstBad : List K.S26 → Int
  | [] => 0
  | x :: l => if entryE x = 0 then firstBad l else entryE x
/-- Why a message can't be written. -/
def msgBad (m : MsgL) : Prop := m.k < 0 ∨ m.who < 0 ∨ m.ver < 0 ∨ 2 < m.k ∨ 4 ≤ m.who ∨ 1024 < m.ver
instance (m : MsgL) : Decidable (msgBad m) := by unfold msgBad; infer_instance
def msgE (m : MsgL) : Int := if msgBad m then 1 else if 1024 < m.l.length then 2 else firstBad m.l
abbrev msgV (m : MsgL) (A : Option Addr) (c : Nat) : Value := .agg #[.int .i64 m.k, .int .i64 m.who, .int .i64 m.ver, .slice A m.l.length c]
abbrev msgO (m : MsgL) (A : Option Addr) (c : Nat) : Obj := .cells #[.int .i64 m.k, .int .i64 m.who, .int .i64 m.ver, .slice A m.l.length c] 71

abbrev entO (x : K.S26) (A : Option Addr) (c : Nat) : Obj := .cells #[.int .i64 x.f0, .int .i64 x.f1, .int .i64 x.f2.f0, .int .i64 x.f2.f1, .int .i64 x.f2.f2, .int .i64 x.f2.f3, .int .i64 x.f2.f4, .int .i64 x.f2.f5, .slice A x.f2.f6.length c, .int .i64 x.f2.f7] 26

set_option maxHeartbeats 8000000 in
theorem message_is (m : MsgL) (A : Option Addr) (c : Nat) (w : World) (hr : Kd.C K.k26 w A m.l.length m.l) (hc : m.l.length ≤ c) :
    Calls Try.prog 109 #[msgV m A c] w fun e w' => e = .returned (.int .i64 (msgE m)) ∧ Below w.heap.size w w' := by
  obtain ⟨k, who, ver, l⟩ := m
  unfold msgV
  simp only at hr hc ⊢
  have HC := Lib.hid hr
  clear hr
  obtain ⟨E, hE⟩ : ∃ E, msgE ⟨k, who, ver, l⟩ = E := ⟨_, rfl⟩
  rw [hE]
  unfold msgE msgBad at hE
  simp only at hE
  have hbe : Below w.heap.size w (w.alloc (.cells #[.int .i64 k, .int .i64 who, .int .i64 ver, .slice A l.length c] 71)) := (Below.refl _ _).alloc (Nat.le_refl _) _
  have HBE := Lib.hid hbe
  clear hbe
  obtain ⟨q, hq⟩ : ∃ q, (if who < k then who else k) = q := ⟨_, rfl⟩
  obtain ⟨r, hqr⟩ : ∃ r, (if ver < q then ver else q) = r := ⟨_, rfl⟩
  have hrr : r < 0 ↔ k < 0 ∨ who < 0 ∨ ver < 0 := by rw [← hqr, ← hq]; split <;> (split <;> omega)
  by_cases hmin : k < 0 ∨ who < 0 ∨ ver < 0
  · have t0 : decide (r < 0) = true := by rw [decide_eq_true_eq]; exact hrr.2 hmin
    rw [if_pos (by omega)] at hE
    subst hE
    clear hrr hmin
    go_enter Try.func109, Try.ntmps109
    go_wp2
    refine bodyPost_ret (results_tmp rfl _ _ _) rfl ?_
    exact ⟨rfl, HBE.out⟩
  have t0 : decide (r < 0) = false := by rw [decide_eq_false_iff_not]; exact fun h => hmin (hrr.1 h)
  clear hrr
  by_cases h1 : 2 < k
  · have t1 : decide (2 < k) = true := decide_eq_true h1
    rw [if_pos (by omega)] at hE
    subst hE
    clear h1 hmin
    go_enter Try.func109, Try.ntmps109
    go_wp2
    refine bodyPost_ret (results_tmp rfl _ _ _) rfl ?_
    exact ⟨rfl, HBE.out⟩
  have t1 : decide (2 < k) = false := decide_eq_false h1
  by_cases h2 : 4 ≤ who
  · have t2 : decide (4 ≤ who) = true := decide_eq_true h2
    rw [if_pos (by omega)] at hE
    subst hE
    clear h1 h2 hmin
    go_enter Try.func109, Try.ntmps109
    go_wp2
    refine bodyPost_ret (results_tmp rfl _ _ _) rfl ?_
    exact ⟨rfl, HBE.out⟩
  have t2 : decide (4 ≤ who) = false := decide_eq_false h2
  by_cases h3 : 1024 < ver
  · have t3 : decide (1024 < ver) = true := decide_eq_true h3
    rw [if_pos (by omega)] at hE
    subst hE
    clear h1 h2 h3 hmin
    go_enter Try.func109, Try.ntmps109
    go_wp2
    refine bodyPost_ret (results_tmp rfl _ _ _) rfl ?_
    exact ⟨rfl, HBE.out⟩
  have t3 : decide (1024 < ver) = false := decide_eq_false h3
  rw [if_neg (by omega)] at hE
  clear h1 h2 h3 hmin
  by_cases h4 : 1024 < l.length
  · rw [if_pos h4] at hE
    subst hE
    go_enter Try.func109, Try.ntmps109
    go_wp2
    refine bodyPost_ret (results_tmp rfl _ _ _) rfl ?_
    exact ⟨rfl, HBE.out⟩
  rw [if_neg h4] at hE
  have HE := Lib.hid hE
  clear hE
  go_enter Try.func109, Try.ntmps109
  go_wp2
  go_loopg [32] l.length (fun g s32 wr => ∃ i : Nat, s32 = .int .i64 i ∧ i ≤ l.length ∧ g = l.length - i ∧ Hid (firstBad (l.drop i) = E) ∧ Hid (Below w.heap.size w wr))
  case atStart => exact ⟨0, rfl, Nat.zero_le _, rfl, Lib.hid (by rw [List.drop_zero]; exact HE.out), HBE⟩
  case round =>
    clear HE HBE t0 t1 t2 t3 hq hqr
    obtain ⟨i, rfl, hi, hg, HE, HB⟩ := hrel
    by_cases hlt : i < l.length
    · have hCi := Kd.C_below HC.out HB.out
      obtain ⟨ad, A8, c8, ea, a0, a1, a2, a3, a4, a5, a6, a7, a8, a9, l8, g8⟩ := K.at_T26 hCi (i : Int) (by omega) (by omega)
      subst ea
      have hrd : K.rd_T26 l (i : Int) = l[i] := by unfold K.rd_T26; rw [Int.toNat_natCast, List.getD_eq_getElem?_getD, List.getElem?_eq_getElem hlt]; rfl
      have hdr : l.drop i = l[i] :: l.drop (i + 1) := List.drop_eq_getElem_cons hlt
      have hE := HE.out
      rw [hdr, firstBad] at hE
      rw [hrd] at a0 a1 a2 a3 a4 a5 a6 a7 a8 a9 l8 g8
      rw [Int.toNat_natCast] at a0 a1 a2 a3 a4 a5 a6 a7 a8 a9
      generalize l[i] = x at hE a0 a1 a2 a3 a4 a5 a6 a7 a8 a9 l8 g8
      clear hrd hdr HE hCi
      have hbx : Below wr.heap.size wr (wr.alloc (entO x A8 c8)) := (Below.refl _ _).alloc (Nat.le_refl _) _
      have HD := Lib.hid (entry_is x A8 c8 (wr.alloc (entO x A8 c8)) (Kd.C_below g8 hbx) l8)
      have HBX := Lib.hid (HB.out.trans (hbx.mono HB.out.size))
      have HE := Lib.hid hE
      clear hbx g8 hE
      by_cases h0 : entryE x = 0
      · rw [h0] at HD
        have HN : Hid (firstBad (l.drop (i + 1)) = E) := Lib.hid (by have := HE.out; rwa [if_pos h0] at this)
        clear HE h0
        go_wp2_with (go_at_call 87; refine HD.out.mono ?_; rintro e w2 ⟨rfl, hb⟩; have HB2 := Lib.hid (HBX.out.trans (hb.mono HBX.out.size)); clear hb)
        go_roundg (l.length - (i + 1))
        case measure => omega
        case rel => exact ⟨i + 1, by go_num, by omega, rfl, HN, HB2⟩
      · have HN : Hid (entryE x = E) := Lib.hid (by have := HE.out; rwa [if_neg h0] at this)
        have hne : (entryE x != 0) = true := by simpa using h0
        rw [HN.out] at HD hne
        clear HE h0
        go_wp2_with (go_at_call 87; refine HD.out.mono ?_; rintro e w2 ⟨rfl, hb⟩; have HB2 := Lib.hid (HBX.out.trans (hb.mono HBX.out.size)); clear hb)
        go_ret
        exact ⟨rfl, HB2.out⟩
    · obtain rfl : i = l.length := by omega
      have hE := HE.out
      rw [List.drop_length] at hE
      obtain rfl : E = 0 := hE.symm
      clear hE
      go_wp2
      go_ret
      exact ⟨rfl, HB.out⟩

/-- A message's bytes. -/
def msgB (m : MsgL) : List Int := vbs [m.k, m.who, m.ver, (m.l.length : Int)] ++ m.l.flatMap entryB
def putMsgF (m : MsgL) : List Int × Int := (if msgE m = 0 then msgB m else [], msgE m)
def MsgAt (w : World) (P : Nat) (k who ver : Int) (A : Option Addr) (n c : Nat) : Prop := w.heap[P]? = some (.cells #[.int .i64 k, .int .i64 who, .int .i64 ver, .slice A n c] 71 (0, 0))
theorem MsgAt.lt {w : World} {P n c : Nat} {k who ver : Int} {A : Option Addr} (h : MsgAt w P k who ver A n c) : P < w.heap.size := (Array.getElem?_eq_some_iff.1 h).1
theorem MsgAt.c {w : World} {P n c : Nat} {k who ver : Int} {A : Option Addr} (h : MsgAt w P k who ver A n c) : w.cell? ⟨P, 0, none⟩ = some (.int .i64 k) ∧ w.cell? ⟨P, 1, none⟩ = some (.int .i64 who) ∧ w.cell? ⟨P, 2, none⟩ = some (.int .i64 ver) ∧ w.cell? ⟨P, 3, none⟩ = some (.slice A n c) := by
  simp [World.cell?, show w.heap[P]? = _ from h]

end Go.Proofs.Ytmbnjgnmblgjoaa.Man
end

-- FrameVb
section
/- What is read was written so: one number. Plain. -/

namespace Go.Proofs.Ytmbnjgnmblgjoaa.Man
open Go.RowKit
set_option linter.unusedVariables false
theorem vb_of2 (v : Nat) (off : Nat) (l : List Int) (hB : areBytesN l = true) (h : getL l 0 0 = (v, off, 0)) : v < 18446744073709551616 ∧ 0 < off ∧ off ≤ l.length ∧ l = vb v ++ l.drop off ∧ off = (vb v).length := by
  obtain ⟨m, _, hv, hm, hoff, hl⟩ := getL_inv l 0 0 v off hB (by decide) h
  have e : v = m := by rw [hv]; simp
  subst e
  have hoff' : off = (vb v).length := by omega
  have hp := vb_length_pos v
  refine ⟨by have h2 : (2 : Nat) * 128 ^ (9 - 0) = 18446744073709551616 := by decide
             omega, by omega, ?_, by rw [hoff']; exact hl, hoff'⟩
  have := congrArg List.length hl
  rw [List.length_append] at this
  omega
end Go.Proofs.Ytmbnjgnmblgjoaa.Man
end

-- ReadMath
section
/- Reading tokens, entries, messages: what it comes to, over lists of bytes; that it undoes the writing, and that there is one way to write. Plain: no program's run. -/


namespace Go.Proofs.Ytmbnjgnmblgjoaa.Man
open Go.RowKit Go.Proofs.YtmbnjgnmblgjoaaW.PrintWords Go.Proofs.YtmbnjgnmblgjoaaW.PrintLast Go.Proofs.YtmbnjgnmblgjoaaW.PrintMore
set_option linter.unusedVariables false
set_option linter.unusedSimpArgs false

abbrev Rd (α : Type) := Except Int (α × List Int)
def bnd {α β : Type} (r : Rd α) (f : α → List Int → Rd β) : Rd β := match r with | .error e => .error e | .ok (a, l) => f a l
theorem bnd_ok {α β : Type} (a : α) (l : List Int) (f : α → List Int → Rd β) : bnd (.ok (a, l)) f = f a l := rfl
theorem bnd_err {α β : Type} (e : Int) (f : α → List Int → Rd β) : bnd (.error e : Rd α) f = .error e := rfl
theorem bnd_inv {α β : Type} {r : Rd α} {f : α → List Int → Rd β} {x : β × List Int} (h : bnd r f = .ok x) : ∃ a l, r = .ok (a, l) ∧ f a l = .ok x := by
  match r, h with
  | .ok (a, l), h => exact ⟨a, l, rfl, h⟩
def most : Int := 2147483647
/-- A number, at most so great. -/
def rnum (top : Int) (l : List Int) : Rd Int :=
  if (getL l 0 0).2.2 ≠ 0 then .error (getL l 0 0).2.2 else if top < ((getL l 0 0).1 : Int) then .error 4 else .ok (((getL l 0 0).1 : Int), l.drop (getL l 0 0).2.1)
theorem rnum_inv {top : Int} {l : List Int} {n : Int} {r : List Int} (hB : areBytesN l = true) (h : rnum top l = .ok (n, r)) : 0 ≤ n ∧ n ≤ top ∧ l = vb n.toNat ++ r ∧ areBytesN r = true := by
  unfold rnum at h
  split at h
  · cases h
  rename_i h0
  split at h
  · cases h
  rename_i h1
  obtain ⟨⟨v, off, er⟩, hg⟩ : ∃ g, getL l 0 0 = g := ⟨_, rfl⟩
  rw [hg] at h h0 h1
  simp only at h h0 h1
  obtain rfl : er = 0 := by omega
  obtain ⟨v1, v2, v3, v4, v5⟩ := vb_of2 v off l hB hg
  simp only [Except.ok.injEq, Prod.mk.injEq] at h
  obtain ⟨rfl, rfl⟩ := h
  exact ⟨by omega, by omega, by rw [Int.toNat_natCast]; exact v4, areBytesN_drop hB _⟩

/-! ### Tokens -/
def rtok (l : List Int) : Rd K.S111 :=
  bnd (rnum most l) fun k l => if k % 4 = 0 then bnd (rnum most l) fun m l => .ok (⟨0, 0, k / 4, m⟩, l)
    else if k % 4 = 1 ∨ k % 4 = 3 then bnd (rnum most l) fun t l => .ok (⟨k % 4, t, k / 4, 0⟩, l) else .ok (⟨2, 0, k / 4, 0⟩, l)
def rtoks : Nat → List Int → Rd (List K.S111)
  | 0, l => .ok ([], l)
  | n + 1, l => bnd (rtok l) fun x l => bnd (rtoks n l) fun xs l => .ok (x :: xs, l)
def rdoc (l : List Int) : Rd (List K.S111) := bnd (rnum 2048 l) fun n l => rtoks n.toNat l
theorem rtok_inv {l : List Int} {x : K.S111} {r : List Int} (hB : areBytesN l = true) (h : rtok l = .ok (x, r)) : l = tokB x ++ r ∧ TokOk x ∧ areBytesN r = true := by
  unfold rtok most at h
  obtain ⟨k, l1, h1, h⟩ := bnd_inv h
  obtain ⟨k0, k1, e1, hB1⟩ := rnum_inv hB h1
  split at h
  · rename_i q
    obtain ⟨m, l2, h2, h⟩ := bnd_inv h
    obtain ⟨m0, m1, e2, hB2⟩ := rnum_inv hB1 h2
    simp only [Except.ok.injEq, Prod.mk.injEq] at h
    obtain ⟨rfl, rfl⟩ := h
    refine ⟨?_, ⟨by simp, by simp, by simp, by simp, by simp only; omega, by simp only; omega, by simp only; omega, by simp only; omega⟩, hB2⟩
    unfold tokB
    simp only
    rw [if_pos trivial, List.append_assoc, ← e2, show (0 + 4 * (k / 4)).toNat = k.toNat by omega]
    exact e1
  · split at h
    · rename_i q0 q
      obtain ⟨t, l2, h2, h⟩ := bnd_inv h
      obtain ⟨m0, m1, e2, hB2⟩ := rnum_inv hB1 h2
      simp only [Except.ok.injEq, Prod.mk.injEq] at h
      obtain ⟨rfl, rfl⟩ := h
      refine ⟨?_, ⟨by simp only; omega, by simp only; omega, by simp only; omega, by simp only; omega, by simp only; omega, by simp only; omega, by simp, by simp⟩, hB2⟩
      unfold tokB
      simp only
      rw [if_neg q0, if_pos q, List.append_assoc, ← e2, show (k % 4 + 4 * (k / 4)).toNat = k.toNat by omega]
      exact e1
    · rename_i q0 q
      simp only [Except.ok.injEq, Prod.mk.injEq] at h
      obtain ⟨rfl, rfl⟩ := h
      refine ⟨?_, ⟨by simp, by simp, by simp, by simp, by simp only; omega, by simp only; omega, by simp, by simp⟩, hB1⟩
      unfold tokB
      simp only
      rw [if_neg (by decide), if_neg (by decide), List.append_nil, show (2 + 4 * (k / 4)).toNat = k.toNat by omega]
      exact e1
theorem rtoks_inv : ∀ (n : Nat) {l : List Int} {xs : List K.S111} {r : List Int}, areBytesN l = true → rtoks n l = .ok (xs, r) → l = xs.flatMap tokB ++ r ∧ xs.length = n ∧ (∀ x ∈ xs, TokOk x) ∧ areBytesN r = true
  | 0, l, xs, r, hB, h => by
    simp only [rtoks, Except.ok.injEq, Prod.mk.injEq] at h
    obtain ⟨rfl, rfl⟩ := h
    exact ⟨rfl, rfl, (fun x hx => by cases hx), hB⟩
  | n + 1, l, xs, r, hB, h => by
    rw [rtoks] at h
    obtain ⟨x, l1, h1, h⟩ := bnd_inv h
    obtain ⟨e1, t1, hB1⟩ := rtok_inv hB h1
    obtain ⟨ys, l2, h2, h⟩ := bnd_inv h
    obtain ⟨e2, n2, t2, hB2⟩ := rtoks_inv n hB1 h2
    simp only [Except.ok.injEq, Prod.mk.injEq] at h
    obtain ⟨rfl, rfl⟩ := h
    refine ⟨by rw [List.flatMap_cons, List.append_assoc, ← e2]; exact e1, by rw [List.length_cons, n2], fun y hy => ?_, hB2⟩
    rcases List.mem_cons.1 hy with rfl | hy
    · exact t1
    · exact t2 y hy
theorem rdoc_inv {l : List Int} {xs : List K.S111} {r : List Int} (hB : areBytesN l = true) (h : rdoc l = .ok (xs, r)) : l = docB xs ++ r ∧ xs.length ≤ 2048 ∧ (∀ x ∈ xs, TokOk x) ∧ areBytesN r = true := by
  unfold rdoc at h
  obtain ⟨n, l1, h1, h⟩ := bnd_inv h
  obtain ⟨n0, n1, e1, hB1⟩ := rnum_inv hB h1
  obtain ⟨e2, n2, t2, hB2⟩ := rtoks_inv _ hB1 h
  refine ⟨by unfold docB; rw [n2, List.append_assoc, ← e2]; exact e1, by omega, t2, hB2⟩

/-! ### Entries -/
def rent (l : List Int) : Rd K.S26 :=
  bnd (rnum most l) fun who l => bnd (rnum most l) fun seq l => bnd (rnum 3 l) fun k l => bnd (rnum most l) fun f l => bnd (rnum most l) fun t l =>
    if k = 2 ∨ k = 3 then bnd (rnum most l) fun m l => .ok (⟨who, seq, ⟨k, f, t, 0, 0, 0, [], m⟩⟩, l)
    else if k = 1 then bnd (rnum most l) fun gf l => bnd (rnum most l) fun gt l => bnd (rnum most l) fun ins l => bnd (rdoc l) fun s l => .ok (⟨who, seq, ⟨k, f, t, gf, gt, ins, s, 0⟩⟩, l)
    else bnd (rdoc l) fun s l => .ok (⟨who, seq, ⟨k, f, t, 0, 0, 0, s, 0⟩⟩, l)
theorem vbs_cons (a : Int) (l : List Int) : vbs (a :: l) = vb a.toNat ++ vbs l := rfl
theorem vbs_nil' : vbs [] = [] := rfl
theorem rent_inv {l : List Int} {x : K.S26} {r : List Int} (hB : areBytesN l = true) (h : rent l = .ok (x, r)) : l = entryB x ++ r ∧ areBytesN r = true := by
  unfold rent most at h
  obtain ⟨who, l1, h1, h⟩ := bnd_inv h
  obtain ⟨a1, b1, e1, hB1⟩ := rnum_inv hB h1
  obtain ⟨seq, l2, h2, h⟩ := bnd_inv h
  obtain ⟨a2, b2, e2, hB2⟩ := rnum_inv hB1 h2
  obtain ⟨k, l3, h3, h⟩ := bnd_inv h
  obtain ⟨a3, b3, e3, hB3⟩ := rnum_inv hB2 h3
  obtain ⟨f, l4, h4, h⟩ := bnd_inv h
  obtain ⟨a4, b4, e4, hB4⟩ := rnum_inv hB3 h4
  obtain ⟨t, l5, h5, h⟩ := bnd_inv h
  obtain ⟨a5, b5, e5, hB5⟩ := rnum_inv hB4 h5
  unfold entryB
  split at h
  · rename_i q
    obtain ⟨m, l6, h6, h⟩ := bnd_inv h
    obtain ⟨a6, b6, e6, hB6⟩ := rnum_inv hB5 h6
    simp only [Except.ok.injEq, Prod.mk.injEq] at h
    obtain ⟨rfl, rfl⟩ := h
    refine ⟨?_, hB6⟩
    simp only [vbs_cons, vbs_nil', List.append_nil, List.append_assoc]
    rw [if_pos q, ← e6, ← e5, ← e4, ← e3, ← e2]
    exact e1
  · rename_i q
    split at h
    · rename_i q1
      obtain ⟨gf, l6, h6, h⟩ := bnd_inv h
      obtain ⟨a6, b6, e6, hB6⟩ := rnum_inv hB5 h6
      obtain ⟨gt, l7, h7, h⟩ := bnd_inv h
      obtain ⟨a7, b7, e7, hB7⟩ := rnum_inv hB6 h7
      obtain ⟨ins, l8, h8, h⟩ := bnd_inv h
      obtain ⟨a8, b8, e8, hB8⟩ := rnum_inv hB7 h8
      obtain ⟨s, l9, h9, h⟩ := bnd_inv h
      obtain ⟨e9, _, _, hB9⟩ := rdoc_inv hB8 h9
      simp only [Except.ok.injEq, Prod.mk.injEq] at h
      obtain ⟨rfl, rfl⟩ := h
      refine ⟨?_, hB9⟩
      simp only [vbs_cons, vbs_nil', List.append_nil, List.append_assoc]
      rw [if_neg q, if_pos q1]
      simp only [List.append_assoc]
      rw [← e9, ← e8, ← e7, ← e6, ← e5, ← e4, ← e3, ← e2]
      exact e1
    · rename_i q1
      obtain ⟨s, l9, h9, h⟩ := bnd_inv h
      obtain ⟨e9, _, _, hB9⟩ := rdoc_inv hB5 h9
      simp only [Except.ok.injEq, Prod.mk.injEq] at h
      obtain ⟨rfl, rfl⟩ := h
      refine ⟨?_, hB9⟩
      simp only [vbs_cons, vbs_nil', List.append_nil, List.append_assoc]
      rw [if_neg q, if_neg q1, ← e9, ← e5, ← e4, ← e3, ← e2]
      exact e1

/-! ### Messages -/
def rents : Nat → List Int → Rd (List K.S26)
  | 0, l => .ok ([], l)
  | n + 1, l => bnd (rent l) fun x l => bnd (rents n l) fun xs l => .ok (x :: xs, l)
def rmsg (l : List Int) : Rd MsgL :=
  bnd (rnum most l) fun k l => bnd (rnum most l) fun who l => bnd (rnum most l) fun ver l => bnd (rnum 1024 l) fun n l => bnd (rents n.toNat l) fun xs l => .ok (⟨k, who, ver, xs⟩, l)
theorem rents_inv : ∀ (n : Nat) {l : List Int} {xs : List K.S26} {r : List Int}, areBytesN l = true → rents n l = .ok (xs, r) → l = xs.flatMap entryB ++ r ∧ xs.length = n ∧ areBytesN r = true
  | 0, l, xs, r, hB, h => by
    simp only [rents, Except.ok.injEq, Prod.mk.injEq] at h
    obtain ⟨rfl, rfl⟩ := h
    exact ⟨rfl, rfl, hB⟩
  | n + 1, l, xs, r, hB, h => by
    rw [rents] at h
    obtain ⟨x, l1, h1, h⟩ := bnd_inv h
    obtain ⟨e1, hB1⟩ := rent_inv hB h1
    obtain ⟨ys, l2, h2, h⟩ := bnd_inv h
    obtain ⟨e2, n2, hB2⟩ := rents_inv n hB1 h2
    simp only [Except.ok.injEq, Prod.mk.injEq] at h
    obtain ⟨rfl, rfl⟩ := h
    exact ⟨by rw [List.flatMap_cons, List.append_assoc, ← e2]; exact e1, by rw [List.length_cons, n2], hB2⟩
theorem rmsg_inv {l : List Int} {m : MsgL} {r : List Int} (hB : areBytesN l = true) (h : rmsg l = .ok (m, r)) : l = msgB m ++ r ∧ areBytesN r = true := by
  unfold rmsg most at h
  obtain ⟨k, l1, h1, h⟩ := bnd_inv h
  obtain ⟨a1, b1, e1, hB1⟩ := rnum_inv hB h1
  obtain ⟨who, l2, h2, h⟩ := bnd_inv h
  obtain ⟨a2, b2, e2, hB2⟩ := rnum_inv hB1 h2
  obtain ⟨ver, l3, h3, h⟩ := bnd_inv h
  obtain ⟨a3, b3, e3, hB3⟩ := rnum_inv hB2 h3
  obtain ⟨n, l4, h4, h⟩ := bnd_inv h
  obtain ⟨a4, b4, e4, hB4⟩ := rnum_inv hB3 h4
  obtain ⟨xs, l5, h5, h⟩ := bnd_inv h
  obtain ⟨e5, n5, hB5⟩ := rents_inv _ hB4 h5
  simp only [Except.ok.injEq, Prod.mk.injEq] at h
  obtain ⟨rfl, rfl⟩ := h
  refine ⟨?_, hB5⟩
  unfold msgB
  simp only [vbs_cons, vbs_nil', List.append_nil, List.append_assoc]
  rw [← e5, n5, show ((n.toNat : Nat) : Int) = n by omega, ← e4, ← e3, ← e2]
  exact e1

/-! ### All of the bytes -/
def allF {α : Type} (z : α) (ok : α → Int) (r : Rd α) : α × Int := match r with | .error e => (z, e) | .ok (x, r) => if 0 < r.length ∨ ok x ≠ 0 then (z, 4) else (x, 0)
def getDocF (b : List Int) : List K.S111 × Int := allF [] docE (rdoc b)
def getEntryF (b : List Int) : K.S26 × Int := allF K.z26 entryE (rent b)
def zMsg : MsgL := ⟨0, 0, 0, []⟩
def getMsgF (b : List Int) : MsgL × Int := allF zMsg msgE (rmsg b)
theorem rnum_err {top : Int} {l : List Int} {e : Int} (h : rnum top l = .error e) : e ≠ 0 := by
  unfold rnum at h
  split at h
  · rename_i q
    simp only [Except.error.injEq] at h
    omega
  · split at h
    · simp only [Except.error.injEq] at h; omega
    · cases h
/-- Errors are none but those of numbers. -/
def ErrNz {α : Type} (r : Rd α) : Prop := ∀ e, r = .error e → e ≠ 0
theorem ErrNz.bnd {α β : Type} {r : Rd α} {f : α → List Int → Rd β} (h : ErrNz r) (hf : ∀ a l, ErrNz (f a l)) : ErrNz (bnd r f) := by
  match r, h with
  | .error e, h => intro e' he; exact h e' (by have := Except.error.inj he; rw [this])
  | .ok (a, l), _ => exact hf a l
theorem ErrNz.ok {α : Type} (x : α × List Int) : ErrNz (.ok x : Rd α) := fun e h => by cases h
theorem ErrNz.num (top : Int) (l : List Int) : ErrNz (rnum top l) := fun e h => rnum_err h
theorem ErrNz.tok (l : List Int) : ErrNz (rtok l) := by
  unfold rtok
  refine (ErrNz.num _ _).bnd fun k l => ?_
  split
  · exact (ErrNz.num _ _).bnd fun _ _ => .ok _
  · split
    · exact (ErrNz.num _ _).bnd fun _ _ => .ok _
    · exact .ok _
theorem ErrNz.toks : ∀ (n : Nat) (l : List Int), ErrNz (rtoks n l)
  | 0, l => .ok _
  | n + 1, l => (ErrNz.tok l).bnd fun _ l => (ErrNz.toks n l).bnd fun _ _ => .ok _
theorem ErrNz.doc (l : List Int) : ErrNz (rdoc l) := (ErrNz.num _ _).bnd fun n l => ErrNz.toks _ l
theorem ErrNz.ent (l : List Int) : ErrNz (rent l) := by
  unfold rent
  refine (ErrNz.num _ _).bnd fun _ _ => (ErrNz.num _ _).bnd fun _ _ => (ErrNz.num _ _).bnd fun _ _ => (ErrNz.num _ _).bnd fun _ _ => (ErrNz.num _ _).bnd fun _ _ => ?_
  split
  · exact (ErrNz.num _ _).bnd fun _ _ => .ok _
  · split
    · exact (ErrNz.num _ _).bnd fun _ _ => (ErrNz.num _ _).bnd fun _ _ => (ErrNz.num _ _).bnd fun _ _ => (ErrNz.doc _).bnd fun _ _ => .ok _
    · exact (ErrNz.doc _).bnd fun _ _ => .ok _
theorem ErrNz.ents : ∀ (n : Nat) (l : List Int), ErrNz (rents n l)
  | 0, l => .ok _
  | n + 1, l => (ErrNz.ent l).bnd fun _ l => (ErrNz.ents n l).bnd fun _ _ => .ok _
theorem ErrNz.msg (l : List Int) : ErrNz (rmsg l) :=
  (ErrNz.num _ _).bnd fun _ _ => (ErrNz.num _ _).bnd fun _ _ => (ErrNz.num _ _).bnd fun _ _ => (ErrNz.num _ _).bnd fun _ _ => (ErrNz.ents _ _).bnd fun _ _ => .ok _
end Go.Proofs.Ytmbnjgnmblgjoaa.Man
end

-- Read
section
/- codec's reader: a number at a place. -/


namespace Go.Proofs.Ytmbnjgnmblgjoaa.Man
open Go.RowKit Go.Proofs.YtmbnjgnmblgjoaaW.PrintWords Go.Proofs.YtmbnjgnmblgjoaaW.PrintLast Go.Proofs.YtmbnjgnmblgjoaaW.PrintMore
set_option linter.unusedVariables false
set_option linter.unusedSimpArgs false
set_option maxRecDepth 100000

/-- What a reader panics with. -/
abbrev errCh (f : Int) : List PanicEntry := [{ v := .iface 28 (.int .i64 f), recovered := false }]
/-- A place in bytes. -/
def SpotAt (w : World) (P : Nat) (A : Option Addr) (c n p : Nat) : Prop := w.heap[P]? = some (.cells #[.slice A n c, .int .i64 (p : Int)] 194 (0, 0))
theorem SpotAt.c0 {w : World} {P c n p : Nat} {A : Option Addr} (k : SpotAt w P A c n p) : w.cell? ⟨P, 0, none⟩ = some (.slice A n c) := by simp [World.cell?, show w.heap[P]? = _ from k]
theorem SpotAt.c1 {w : World} {P c n p : Nat} {A : Option Addr} (k : SpotAt w P A c n p) : w.cell? ⟨P, 1, none⟩ = some (.int .i64 (p : Int)) := by simp [World.cell?, show w.heap[P]? = _ from k]
theorem SpotAt.f {w : World} {P c n p : Nat} {A : Option Addr} (k : SpotAt w P A c n p) (i : Nat) : w.frozen? ⟨P, i, none⟩ = false := by simp [World.frozen?, show w.heap[P]? = _ from k]
theorem SpotAt.lt {w : World} {P c n p : Nat} {A : Option Addr} (k : SpotAt w P A c n p) : P < w.heap.size := (Array.getElem?_eq_some_iff.1 k).1
theorem SpotAt.put {w : World} {P c n p : Nat} {A : Option Addr} (k : SpotAt w P A c n p) (q : Nat) : SpotAt (w.setCell ⟨P, 1, none⟩ (.int .i64 (q : Int))) P A c n q := by
  unfold SpotAt World.setCell
  simp [Array.getElem?_modify, show w.heap[P]? = _ from k]
theorem SpotAt.below {w w1 : World} {P c n p m : Nat} {A : Option Addr} (k : SpotAt w P A c n p) (h : Below m w w1) (hm : P < m) : SpotAt w1 P A c n p := (h.block P hm).trans k
theorem SpotAt.drewN {w : World} {P c n p m : Nat} {A : Option Addr} (k : SpotAt w P A c n p) : SpotAt (w.drewN m) P A c n p := (congrArg (fun h => h[P]?) (by simp [World.drewN] : (w.drewN m).heap = w.heap)).trans k
/-- The number at a place, and the place behind it. -/
theorem rnum_getF {top : Int} {b : List Int} {p : Nat} (hp : p ≤ b.length) : rnum top (b.drop p) = if (getF b p).2.2 ≠ 0 then .error (getF b p).2.2 else if top < (getF b p).1 then .error 4 else .ok ((getF b p).1, b.drop (getF b p).2.1.toNat) := by
  have e : getF b p = (((getL (b.drop p) 0 0).1 : Int), (p : Int) + ((getL (b.drop p) 0 0).2.1 : Int), (getL (b.drop p) 0 0).2.2) := by
    unfold getF
    rw [if_neg (by omega), Int.toNat_natCast]
  rw [e]
  unfold rnum
  simp only
  rw [List.drop_drop, show ((p : Int) + ((getL (b.drop p) 0 0).2.1 : Int)).toNat = p + (getL (b.drop p) 0 0).2.1 by omega]
theorem getF_spot {b : List Int} {p : Nat} (hB : areBytesN b = true) (h : (getF b p).2.2 = 0) : ∃ q : Nat, (getF b p).2.1 = (q : Int) ∧ p ≤ q ∧ q ≤ b.length := by
  obtain ⟨_, h1, h2, _⟩ := getF_range b p hB h
  exact ⟨(getF b p).2.1.toNat, by omega, by omega, by omega⟩

theorem fail_no (P : Value) (w : World) : Calls Try.prog 144 #[P, .bool false] w fun e w' => e = .returned (.tuple #[]) ∧ w = w' := by
  go_enter Try.func144, Try.ntmps144
  go_wp2
  go_end0
  exact ⟨rfl, rfl⟩
theorem fail_yes (P : Value) (w : World) : Calls Try.prog 144 #[P, .bool true] w fun e w' => e = .panicked (errCh 4) ∧ w = w' := by
  go_enter Try.func144, Try.ntmps144
  go_wp2
  exact ⟨rfl, rfl, rfl⟩

theorem grown_drewN (w : World) (m : Nat) (r : Option Nat) : w.grownBy (w.drewN m) r := grown_of_below (pw_below_drewN (Below.refl _ _) m) r

set_option maxHeartbeats 4000000 in
theorem snum_ok {w : World} {P c p : Nat} {A : Option Addr} {b : List Int} (k : SpotAt w P A c b.length p) (hC : Kd.C (Kd.int .u8) w A b.length b) (hc : b.length ≤ c) (hB : areBytesN b = true) (hp : p ≤ b.length) (top : Int) (ht0 : 0 ≤ top) (ht1 : top ≤ 2147483647)
    (n : Int) (r : List Int) (h : rnum top (b.drop p) = .ok (n, r)) :
    Calls Try.prog 131 #[.pointer (some ⟨P, 0, none⟩), .int .i64 top] w fun e w' => e = .returned (.int .i64 n) ∧ SpotAt w' P A c b.length (b.length - r.length) ∧ w.grownBy w' (some P) := by
  rw [rnum_getF hp] at h
  split at h
  · cases h
  rename_i h0
  split at h
  · cases h
  rename_i h1
  have h00 : (getF b p).2.2 = 0 := by omega
  obtain ⟨q, hq, hpq, hqb⟩ := getF_spot hB h00
  have hg0 := (getF_range b p hB h00).2.2.2
  have hG : ∀ m, Calls Try.prog 91 #[.slice A b.length c, .int .i64 (p : Int)] (w.drewN m) fun e w' => e = .returned (.tuple #[.int .u64 (getF b p).1, .int .i64 (q : Int), .int .i64 0]) ∧ w' = w.drewN m := fun m => by
    have := get_any A c b p (w.drewN m) (Kd.C_below hC (pw_below_drewN (Below.refl _ _) m)) hc hB
    rw [h00, hq] at this
    exact this.mono fun _ _ ⟨e1, e2⟩ => ⟨e1, e2.symm⟩
  have hnr : n = (getF b p).1 ∧ r = b.drop q := by
    simp only [Except.ok.injEq, Prod.mk.injEq] at h
    rw [hq, Int.toNat_natCast] at h
    exact ⟨h.1.symm, h.2.symm⟩
  obtain ⟨rfl, rfl⟩ := hnr
  have hrl : b.length - (b.drop q).length = q := by rw [List.length_drop]; omega
  rw [hrl]
  generalize (getF b p).1 = n at h1 hg0 hG
  have HG := Lib.hid hG
  have HK := Lib.hid k
  have k0 := k.c0
  have k1 := k.c1
  have kf := k.f 1
  have hU : IntKind.u64.wrap top = top := by rw [IntKind.wrap_u64]; omega
  have ht : decide (top < n) = false := by rw [decide_eq_false_iff_not]; omega
  clear h h0 hq hrl hC hG k h00
  go_enter Try.func131, Try.ntmps131
  go_wp2
  go_quiet ((go_at_call 91; exact Calls.quiet_of_same (HG.out _)))
  go_wp2_with (go_at_call 144; refine (fail_no _ _).mono ?_; rintro e w' ⟨rfl, rfl⟩)
  go_ret
  exact ⟨rfl, SpotAt.put (SpotAt.drewN HK.out) q, grownBy_set _ _ _ _ (grown_drewN _ _ _)⟩

set_option maxHeartbeats 4000000 in
theorem snum_err {w : World} {P c p : Nat} {A : Option Addr} {b : List Int} (k : SpotAt w P A c b.length p) (hC : Kd.C (Kd.int .u8) w A b.length b) (hc : b.length ≤ c) (hB : areBytesN b = true) (hp : p ≤ b.length) (top : Int) (ht0 : 0 ≤ top) (ht1 : top ≤ 2147483647)
    (f : Int) (h : rnum top (b.drop p) = .error f) :
    Calls Try.prog 131 #[.pointer (some ⟨P, 0, none⟩), .int .i64 top] w fun e w' => e = .panicked (errCh f) ∧ w.grownBy w' (some P) := by
  rw [rnum_getF hp] at h
  have hG : ∀ m, Calls Try.prog 91 #[.slice A b.length c, .int .i64 (p : Int)] (w.drewN m) fun e w' => e = .returned (.tuple #[.int .u64 (getF b p).1, .int .i64 (getF b p).2.1, .int .i64 (getF b p).2.2]) ∧ w' = w.drewN m := fun m =>
    (get_any A c b p (w.drewN m) (Kd.C_below hC (pw_below_drewN (Below.refl _ _) m)) hc hB).mono fun _ _ ⟨e1, e2⟩ => ⟨e1, e2.symm⟩
  have k0 := k.c0
  have k1 := k.c1
  have kf := k.f 1
  have hg0 := getF_range b p hB
  clear hC k
  obtain ⟨⟨n, nx, er⟩, hg⟩ : ∃ g, getF b p = g := ⟨_, rfl⟩
  rw [hg] at h hG hg0
  simp only at h hG hg0
  have HG := Lib.hid hG
  clear hG hg
  split at h
  · rename_i h0
    simp only [Except.error.injEq] at h
    subst h
    have hne : (er != 0) = true := by simpa using h0
    clear hg0 h0
    go_enter Try.func131, Try.ntmps131
    go_wp2
    go_quiet ((go_at_call 91; exact Calls.quiet_of_same (HG.out _)))
    go_wp2
    exact ⟨rfl, rfl, grown_drewN _ _ _⟩
  · rename_i h0
    obtain rfl : er = 0 := by omega
    obtain ⟨_, _, _, hn⟩ := hg0 rfl
    split at h
    case isFalse => cases h
    rename_i h1
    simp only [Except.error.injEq] at h
    subst h
    have hU : IntKind.u64.wrap top = top := by rw [IntKind.wrap_u64]; omega
    have ht : decide (top < n) = true := decide_eq_true h1
    clear h0 h1
    go_enter Try.func131, Try.ntmps131
    go_wp2
    go_quiet ((go_at_call 91; exact Calls.quiet_of_same (HG.out _)))
    go_wp2_with (go_at_call 144; refine (fail_yes _ _).mono ?_; rintro e w' ⟨rfl, rfl⟩)
    exact ⟨rfl, rfl, grown_drewN _ _ _⟩
end Go.Proofs.Ytmbnjgnmblgjoaa.Man
end

-- ReadDoc
section
/- codec's reader: tokens. -/

namespace Go.Proofs.Ytmbnjgnmblgjoaa.Man
open Go.RowKit Go.Proofs.YtmbnjgnmblgjoaaW.PrintWords Go.Proofs.YtmbnjgnmblgjoaaW.PrintLast Go.Proofs.YtmbnjgnmblgjoaaW.PrintMore
set_option linter.unusedVariables false
set_option linter.unusedSimpArgs false
set_option maxRecDepth 100000

/-- What a reading leaves: it panics with the error, or hands back what was read, the place behind it. -/
def RdP {α : Type} (w : World) (P : Nat) (A : Option Addr) (c : Nat) (b : List Int) (ret : α → Value → World → Prop) (res : Rd α) (e : Ending) (w' : World) : Prop :=
  w.grownBy w' (some P) ∧ match res with
  | .error f => e = .panicked (errCh f)
  | .ok (x, r) => ∃ v, e = .returned v ∧ ret x v w' ∧ SpotAt w' P A c b.length (b.length - r.length)
theorem RdP.err {α : Type} {w : World} {P : Nat} {A : Option Addr} {c : Nat} {b : List Int} {ret : α → Value → World → Prop} {res : Rd α} {f : Int} {w' : World} (hr : res = .error f) (hg : w.grownBy w' (some P)) : RdP w P A c b ret res (.panicked (errCh f)) w' := by
  subst hr
  exact ⟨hg, rfl⟩
theorem RdP.ok {α : Type} {w : World} {P : Nat} {A : Option Addr} {c : Nat} {b : List Int} {ret : α → Value → World → Prop} {res : Rd α} {x : α} {r : List Int} {v : Value} {w' : World} {q : Nat} (hr : res = .ok (x, r)) (hg : w.grownBy w' (some P)) (hv : ret x v w')
    (hs : SpotAt w' P A c b.length q) (hq : b.length - r.length = q) : RdP w P A c b ret res (.returned v) w' := by
  subst hr
  subst hq
  exact ⟨hg, v, rfl, hv, hs⟩
/-- What is left is the bytes from a place on. -/
theorem rnum_rest {top : Int} {b : List Int} {p : Nat} {n : Int} {r : List Int} (hB : areBytesN b = true) (hp : p ≤ b.length) (h : rnum top (b.drop p) = .ok (n, r)) : ∃ q, q ≤ b.length ∧ r = b.drop q ∧ b.length - r.length = q ∧ 0 ≤ n ∧ n ≤ top := by
  have h2 := rnum_inv (areBytesN_drop hB p) h
  rw [rnum_getF hp] at h
  split at h
  · cases h
  rename_i h0
  split at h
  · cases h
  obtain ⟨q, hq, hpq, hqb⟩ := getF_spot (p := p) hB (by omega)
  simp only [Except.ok.injEq, Prod.mk.injEq] at h
  rw [hq, Int.toNat_natCast] at h
  exact ⟨q, hqb, h.2.symm, by rw [← h.2, List.length_drop]; omega, h2.1, h2.2.1⟩

/-- A row of tokens of the call's own. -/
abbrev TR (w : World) (base : Nat) (v : Value) (xs : List K.S111) : Prop := Kd.R K.k111 111 w base (fun _ => True) v xs
theorem info_tok : (Try.prog.info? 111).map (fun i => (i.zero, i.size, i.bytes)) = some (some (.agg #[.int .i64 0, .int .i64 0, .int .i64 0, .int .i64 0]), 4, 32) := by kernel_rfl
theorem TR.push_ev {ops : Array Oper} {rest : List Oper} {o : Oper} {a : Act} {Q : Exit → Act → World → Prop} {w : World} {base : Nat} {v : Value} {xs : List K.S111} {k t n m : Int} {N : Nat} (hN : w.heap.size = N)
    (h : TR w base v xs) (hgd : o.guard = none) (s x : Operand) (ho : o.op = .call { callee := .builtin .append, args := #[s, x], argTypes := #[22, 22] })
    (hs : a.eval s = v) (hx : a.eval x = .slice (some ⟨N, 0, none⟩) 1 1) (hbase : base ≤ w.heap.size) (hl : xs.length ≤ 4000)
    (kk : ∀ v1 w1, TR w1 base v1 (xs ++ [⟨k, t, n, m⟩]) → Below base w w1 → wpList Try.prog ops Q rest (a.put o.dst v1) w1) : wpList Try.prog ops Q (o :: rest) a (w.alloc (.cells #[.int .i64 k, .int .i64 t, .int .i64 n, .int .i64 m] 111)) :=
  Kd.R_append K.k111 (w0 := w) base hgd s x 22 111 (.agg #[.int .i64 0, .int .i64 0, .int .i64 0, .int .i64 0]) 32 ho Try.underlying22 info_tok rfl (by decide) (by decide) v xs ⟨k, t, n, m⟩ [.int .i64 k, .int .i64 t, .int .i64 n, .int .i64 m] (fun _ => True) (fun _ => False) hs (by rw [hx, hN])
    (K.k111_mkM _ _ _ _) (fun _ h => h.elim) (fun _ _ => trivial) h (Below.refl _ _) hbase (by omega) (fun v1 w1 h1 h2 h3 h4 => kk v1 w1 h1 h2)
theorem TR.grown {w w1 : World} {base P : Nat} {v : Value} {xs : List K.S111} (h : TR w base v xs) (hg : w.grownBy w1 (some P)) (hP : P < base) : TR w1 base v xs :=
  Kd.R_mono (Kd.R_grown (Kd.R_bound h) hg (fun j hj e => by have h1 := hj.2.1; have h2 := Option.some.inj e; omega)) (fun _ _ => trivial)

theorem TR.over {w3 w4 : World} {base P : Nat} {v : Value} {xs : List K.S111} (h : TR w3 base v xs) (hg : w3.grownBy w4 (some P)) (hP : P < base) (T k : Nat) (u : Value) (hT : w3.heap.size ≤ T) : TR (w4.setCell ⟨T, k, none⟩ u) base v xs :=
  Kd.R_mono (Kd.R_grown (Kd.R_grown (Kd.R_bound h) hg (fun j hj e => by have h1 := hj.2.1; have h2 := Option.some.inj e; omega)) (grownBy_set w4 T k u (World.grownBy.refl w4 _)) (fun j hj e => by have h1 := hj.2.2.1; have h2 := Option.some.inj e; omega)) (fun _ _ => trivial)
theorem grown_onB {w w1 w2 : World} {r : Option Nat} {m : Nat} (hg : w.grownBy w1 r) (hb : Below m w1 w2) (hm : w.heap.size ≤ m) : w.grownBy w2 r :=
  ⟨hb.os.trans hg.os, hb.tape.trans hg.tape, hb.output.trans hg.output, Nat.le_trans hg.size hb.size, fun k hk hr => (hb.block k (by omega)).trans (hg.block k hk hr)⟩
theorem grown_setT {w w1 : World} {r : Option Nat} (hg : w.grownBy w1 r) (T k : Nat) (u : Value) (hT : w.heap.size ≤ T) : w.grownBy (w1.setCell ⟨T, k, none⟩ u) r :=
  ⟨hg.os, hg.tape, hg.output, by simpa [World.setCell] using hg.size, fun j hj hr => (Below.heap_setCell w1 ⟨T, k, none⟩ u j (by show j ≠ T; omega)).trans (hg.block j hj hr)⟩
/-- A block that holds a pointer. -/
def PtrAt (w : World) (R P : Nat) : Prop := w.heap[R]? = some (.cells #[.pointer (some ⟨P, 0, none⟩)] 140 (0, 0))
theorem PtrAt.c0 {w : World} {R P : Nat} (k : PtrAt w R P) : w.cell? ⟨R, 0, none⟩ = some (.pointer (some ⟨P, 0, none⟩)) := by simp [World.cell?, show w.heap[R]? = _ from k]
theorem PtrAt.lt {w : World} {R P : Nat} (k : PtrAt w R P) : R < w.heap.size := (Array.getElem?_eq_some_iff.1 k).1
theorem PtrAt.grown {w w1 : World} {R P : Nat} (k : PtrAt w R P) (hg : w.grownBy w1 (some P)) (hP : P < R) : PtrAt w1 R P := (hg.block _ k.lt (by intro e; have := Option.some.inj e; omega)).trans k
theorem SpotAt.grownB {w w1 : World} {P c n p m : Nat} {A : Option Addr} (k : SpotAt w P A c n p) (h : Below m w w1) (hm : P < m) : SpotAt w1 P A c n p := (h.block P hm).trans k

theorem and3 (k : Int) (h0 : 0 ≤ k) (h1 : k ≤ 2147483647) : Go.bits .and .i64 k 3 = k % 4 :=
  bits_mask .i64 63 (by decide) (fun n a b => by
    have b' : n < 9223372036854775808 := b
    rw [IntKind.wrap_i64]; omega) 2 (by decide) k h0 (by simp; omega)

theorem bnd_snoc {α : Type} (r : Rd (List α)) (ys : List α) (x : α) : bnd (bnd r fun xs l => (.ok (x :: xs, l) : Rd (List α))) (fun zs l => (.ok (ys ++ zs, l) : Rd (List α))) = bnd r fun zs l => .ok ((ys ++ [x]) ++ zs, l) := by
  rcases r with f | ⟨zs, l⟩
  · rfl
  · show (Except.ok (ys ++ x :: zs, l) : Rd (List α)) = .ok ((ys ++ [x]) ++ zs, l)
    rw [List.append_assoc]; rfl
theorem TokAt.f {w : World} {P : Nat} {x : K.S111} (k : TokAt w P x) (i : Nat) : w.frozen? ⟨P, i, none⟩ = false := by simp [World.frozen?, show w.heap[P]? = _ from k]

set_option maxHeartbeats 16000000 in
theorem sdoc_is {w0 w : World} {P c p : Nat} {A : Option Addr} {b : List Int} (hC : Kd.C (Kd.int .u8) w0 A b.length b) (hc : b.length ≤ c) (hB : areBytesN b = true) (hb : Below w0.heap.size w0 w) (hP : w0.heap.size ≤ P) (k : SpotAt w P A c b.length p) (hp : p ≤ b.length) :
    Calls Try.prog 125 #[.agg #[.pointer (some ⟨P, 0, none⟩)]] w (RdP w P A c b (fun xs v w' => TR w' w.heap.size v xs) (rdoc (b.drop p))) := by
  have hPl := k.lt
  obtain ⟨w1, hw1⟩ : ∃ w1, w1 = w.alloc (.cells #[.pointer (some ⟨P, 0, none⟩)] 140) := ⟨_, rfl⟩
  have hb1 : Below w.heap.size w w1 := by rw [hw1]; exact (Below.refl _ _).alloc (Nat.le_refl _) _
  have hR1 : PtrAt w1 w.heap.size P := by rw [hw1]; exact World.alloc_heap_new w _
  have hk1 : SpotAt w1 P A c b.length p := k.below hb1 hPl
  have hc1 := Kd.C_below hC (hb.trans (hb1.mono hb.size))
  have hg1 : w.grownBy w1 (some P) := grown_of_below hb1 _
  have HC := Lib.hid hC
  have HBB := Lib.hid hB
  have HG0 := Lib.hid (fun (W : World) (hg : w.grownBy W (some P)) => Kd.C_below hC (below_of_grown hb hg hP))
  clear k
  obtain ⟨X, hX⟩ : ∃ X, rdoc (b.drop p) = X := ⟨_, rfl⟩
  rw [hX]
  unfold rdoc at hX
  rcases hres : rnum 2048 (b.drop p) with f | ⟨n, r⟩
  · rw [hres, bnd_err] at hX
    have HN := Lib.hid (snum_err hk1 hc1 hc hB hp 2048 (by decide) (by decide) f hres)
    have HG1 := Lib.hid hg1
    have HX := Lib.hid hX.symm
    rw [hw1] at HN HG1
    clear hC hB hb hR1 hk1 hc1 hg1 hw1 hb1 hres hX HG0
    go_enter Try.func125, Try.ntmps125
    go_wp2_with (go_at_call 131; refine HN.out.mono ?_; rintro e w2 ⟨rfl, hg⟩; have HG2 := Lib.hid (HG1.out.trans hg); clear hg)
    exact ⟨rfl, RdP.err HX.out HG2.out⟩
  · obtain ⟨q, hq, rfl, hql, hn0, hn1⟩ := rnum_rest hB hp hres
    have hN := snum_ok hk1 hc1 hc hB hp 2048 (by decide) (by decide) n _ hres
    rw [hql] at hN
    rw [hres, bnd_ok] at hX
    obtain ⟨N, rfl⟩ : ∃ N : Nat, n = (N : Int) := ⟨n.toNat, by omega⟩
    rw [Int.toNat_natCast] at hX
    have HN := Lib.hid hN
    have HG1 := Lib.hid hg1
    have HX := Lib.hid hX.symm
    have HR1 := Lib.hid hR1
    have HW1 := Lib.hid hw1
    rw [hw1] at HN
    clear hC hB hb hR1 hk1 hc1 hg1 hw1 hb1 hres hX hN
    go_enter Try.func125, Try.ntmps125
    go_wp2_with (go_at_call 131; refine HN.out.mono ?_; rintro e w2 ⟨rfl, hk, hg⟩; rw [← HW1.out] at hg; have HK2 := Lib.hid hk; have HG2 := Lib.hid (HG1.out.trans hg); have HR2 := Lib.hid (HR1.out.grown hg hPl); clear hk hg)
    go_loopg [4, 11] N (fun g s4 s11 wr => ∃ (i q : Nat) (ys : List K.S111), s11 = .int .i64 i ∧ i ≤ N ∧ g = N - i ∧ q ≤ b.length ∧ ys.length = i ∧ Hid (X = bnd (rtoks (N - i) (b.drop q)) fun zs l => .ok (ys ++ zs, l)) ∧ Hid (TR wr (w.heap.size + 1) s4 ys) ∧ Hid (SpotAt wr P A c b.length q) ∧ Hid (w.grownBy wr (some P)) ∧ Hid (PtrAt wr w.heap.size P))
    case atStart => exact ⟨0, q, [], rfl, Nat.zero_le _, rfl, hq, rfl, Lib.hid (by
      rw [HX.out, Nat.sub_zero]
      rcases rtoks N (b.drop q) with f | ⟨zs, l⟩
      · rfl
      · rfl), Lib.hid (Kd.R_nil _ _ _ _ _), HK2, HG2, HR2⟩
    case round =>
      clear HX HK2 HG2 HR2 HN hql hq HG1 HR1 HW1
      obtain ⟨i, q1, ys, rfl, hi, hg, hq1, hyl, HX, HT, HK, HG, HR⟩ := hrel
      have r0 := HR.out.c0
      by_cases hlt : i < N
      · obtain ⟨d, hd⟩ : ∃ d, N - i = d + 1 := ⟨N - i - 1, by omega⟩
        have hd2 : N - (i + 1) = d := by omega
        have hX := HX.out
        rw [hd, rtoks] at hX
        unfold rtok most at hX
        have hwz : w.heap.size + 1 ≤ wr.heap.size := HR.out.lt
        have hcr := HG0.out wr HG.out
        clear HX
        rcases hres : rnum 2147483647 (b.drop q1) with f | ⟨kk, r⟩
        · rw [hres, bnd_err, bnd_err, bnd_err] at hX
          have HN := Lib.hid (snum_err HK.out hcr hc HBB.out hq1 2147483647 (by decide) (by decide) f hres)
          have HX := Lib.hid hX
          clear hres hX hcr hd hd2
          go_wp2_with (go_at_call 131; refine HN.out.mono ?_; rintro e w3 ⟨rfl, hg⟩; have HG3 := Lib.hid (HG.out.trans hg); clear hg)
          exact ⟨rfl, RdP.err HX.out HG3.out⟩
        · obtain ⟨q2, hq2, rfl, hql2, hk0, hk1⟩ := rnum_rest HBB.out hq1 hres
          have hN := snum_ok HK.out hcr hc HBB.out hq1 2147483647 (by decide) (by decide) kk _ hres
          rw [hql2] at hN
          rw [hres, bnd_ok] at hX
          have HN := Lib.hid hN
          have hand := and3 kk hk0 (by omega)
          obtain ⟨a, ha⟩ : ∃ a, kk % 4 = a := ⟨_, rfl⟩
          rw [ha] at hand
          have haa : a = 0 ∨ a = 1 ∨ a = 2 ∨ a = 3 := by omega
          have HA := Lib.hid ha
          have hyl2 : ys.length ≤ 2048 := by omega
          have HX := Lib.hid hX
          have HD := Lib.hid hd2
          clear hres hX hcr hd hN hd2 ha
          go_upto_region 6 with (go_at_call 131; refine HN.out.mono ?_; rintro e w3 ⟨rfl, hk, hg⟩; have HK3 := Lib.hid hk; have HG3 := Lib.hid (HG.out.trans hg); have HR3 := Lib.hid (HR.out.grown hg hPl); have HT3 := Lib.hid (HT.out.grown hg (by omega)); clear hk hg)
          rcases haa with rfl | rfl | rfl | rfl
          · have hX := HX.out
            rw [HA.out, if_pos rfl] at hX
            have hbt : Below w3.heap.size w3 (w3.alloc (.cells #[.int .i64 0, .int .i64 0, .int .i64 (kk / 4), .int .i64 0] 111)) := (Below.refl _ _).alloc (Nat.le_refl _) _
            have HTK : Hid (TokAt (w3.alloc (.cells #[.int .i64 0, .int .i64 0, .int .i64 (kk / 4), .int .i64 0] 111)) w3.heap.size ⟨0, 0, kk / 4, 0⟩) := Lib.hid (World.alloc_heap_new w3 _)
            have hGt : w.grownBy (w3.alloc (.cells #[.int .i64 0, .int .i64 0, .int .i64 (kk / 4), .int .i64 0] 111)) (some P) := HG3.out.trans (grown_of_below hbt _)
            have hKt := HK3.out.grownB hbt HK3.out.lt
            have rt := (HR3.out.grown (grown_of_below hbt _) hPl).c0
            have hCt := HG0.out _ hGt
            have HGT := Lib.hid hGt
            have HBT := Lib.hid hbt
            rcases hres : rnum 2147483647 (b.drop q2) with f | ⟨m, r⟩
            · rw [hres] at hX
              have HN2 := Lib.hid (snum_err hKt hCt hc HBB.out hq2 2147483647 (by decide) (by decide) f hres)
              have HX2 := Lib.hid (show X = .error f from hX)
              clear hres hX hbt hGt hKt hCt HX HTK
              go_wp2_with (go_at_call 131; refine HN2.out.mono ?_; rintro e w4 ⟨rfl, hg⟩; have HG4 := Lib.hid (HGT.out.trans hg); clear hg)
              exact ⟨rfl, RdP.err HX2.out HG4.out⟩
            · obtain ⟨q3, hq3, rfl, hql3, hm0, hm1⟩ := rnum_rest HBB.out hq2 hres
              have hN2 := snum_ok hKt hCt hc HBB.out hq2 2147483647 (by decide) (by decide) m _ hres
              rw [hql3] at hN2
              rw [hres] at hX
              have HN2 := Lib.hid hN2
              have HX2 : Hid (X = bnd (rtoks (N - (i + 1)) (b.drop q3)) fun zs l => .ok ((ys ++ [⟨0, 0, kk / 4, m⟩]) ++ zs, l)) := Lib.hid (by rw [HD.out, ← bnd_snoc]; exact hX)
              clear hres hX hbt hGt hKt hCt hN2 HX HN
              go_wp2_with (first
                | (go_at_call 131; refine HN2.out.mono ?_; rintro e w4 ⟨rfl, hk, hg⟩; have HK4 := Lib.hid hk; have hT4 : TokAt w4 w3.heap.size ⟨0, 0, kk / 4, 0⟩ := (hg.block _ HTK.out.lt (by intro e; have e2 := Option.some.inj e; have := HK3.out.lt; omega)).trans HTK.out; have d0 := hT4.c0; have d1 := hT4.c1; have d2 := hT4.c2; have d3 := hT4.c3; have df := hT4.f 3; have HG4 := Lib.hid (HGT.out.trans hg); have HT4 := Lib.hid (TR.over HT3.out ((grown_of_below HBT.out _).trans hg) (by omega) w3.heap.size 3 (.int .i64 m) (Nat.le_refl _)); have HR4 := Lib.hid ((HR3.out.grown (grown_of_below HBT.out _) hPl).grown hg hPl); have HZ4 : Hid (w3.heap.size < w4.heap.size) := Lib.hid hT4.lt; clear hk hg hT4)
                | (at_builtin; refine TR.push_ev (w := w4.setCell ⟨w3.heap.size, 3, none⟩ (.int .i64 m)) (N := w4.heap.size) (by simp [World.setCell]) HT4.out rfl (.tmp 36) (.tmp 38) rfl rfl rfl (by have := HR4.out.lt; simp [World.setCell]; omega) (by omega) ?_; intro v5 w5 hr5 hb5; have HT5 := Lib.hid hr5; have HG5 := Lib.hid (grown_onB (grown_setT HG4.out w3.heap.size 3 (.int .i64 m) HG3.out.size) hb5 (Nat.le_succ _)); have HR5 : Hid (PtrAt w5 w.heap.size P) := Lib.hid ((hb5.block _ (Nat.lt_succ_self _)).trans ((Below.heap_setCell w4 _ _ _ (by have := HR3.out.lt; show w.heap.size ≠ w3.heap.size; omega)).trans HR4.out)); have HK5 : Hid (SpotAt w5 P A c b.length q3) := Lib.hid ((hb5.block _ (by omega)).trans ((Below.heap_setCell w4 _ _ _ (by have := HK3.out.lt; show P ≠ w3.heap.size; omega)).trans HK4.out)); clear hr5 hb5))
              go_roundg (N - (i + 1))
              case measure => omega
              case rel => exact ⟨i + 1, q3, ys ++ [⟨0, 0, kk / 4, m⟩], by go_num, by omega, rfl, hq3, by rw [List.length_append, hyl]; rfl, HX2, HT5, HK5, HG5, HR5⟩
          · have hX := HX.out
            rw [HA.out, if_neg (by decide), if_pos (by decide)] at hX
            have hbt : Below w3.heap.size w3 (w3.alloc (.cells #[.int .i64 1, .int .i64 0, .int .i64 (kk / 4), .int .i64 0] 111)) := (Below.refl _ _).alloc (Nat.le_refl _) _
            have HTK : Hid (TokAt (w3.alloc (.cells #[.int .i64 1, .int .i64 0, .int .i64 (kk / 4), .int .i64 0] 111)) w3.heap.size ⟨1, 0, kk / 4, 0⟩) := Lib.hid (World.alloc_heap_new w3 _)
            have hGt : w.grownBy (w3.alloc (.cells #[.int .i64 1, .int .i64 0, .int .i64 (kk / 4), .int .i64 0] 111)) (some P) := HG3.out.trans (grown_of_below hbt _)
            have hKt := HK3.out.grownB hbt HK3.out.lt
            have rt := (HR3.out.grown (grown_of_below hbt _) hPl).c0
            have hCt := HG0.out _ hGt
            have HGT := Lib.hid hGt
            have HBT := Lib.hid hbt
            rcases hres : rnum 2147483647 (b.drop q2) with f | ⟨m, r⟩
            · rw [hres] at hX
              have HN2 := Lib.hid (snum_err hKt hCt hc HBB.out hq2 2147483647 (by decide) (by decide) f hres)
              have HX2 := Lib.hid (show X = .error f from hX)
              clear hres hX hbt hGt hKt hCt HX HTK
              go_wp2_with (go_at_call 131; refine HN2.out.mono ?_; rintro e w4 ⟨rfl, hg⟩; have HG4 := Lib.hid (HGT.out.trans hg); clear hg)
              exact ⟨rfl, RdP.err HX2.out HG4.out⟩
            · obtain ⟨q3, hq3, rfl, hql3, hm0, hm1⟩ := rnum_rest HBB.out hq2 hres
              have hN2 := snum_ok hKt hCt hc HBB.out hq2 2147483647 (by decide) (by decide) m _ hres
              rw [hql3] at hN2
              rw [hres] at hX
              have HN2 := Lib.hid hN2
              have HX2 : Hid (X = bnd (rtoks (N - (i + 1)) (b.drop q3)) fun zs l => .ok ((ys ++ [⟨1, m, kk / 4, 0⟩]) ++ zs, l)) := Lib.hid (by rw [HD.out, ← bnd_snoc]; exact hX)
              clear hres hX hbt hGt hKt hCt hN2 HX HN
              go_wp2_with (first
                | (go_at_call 131; refine HN2.out.mono ?_; rintro e w4 ⟨rfl, hk, hg⟩; have HK4 := Lib.hid hk; have hT4 : TokAt w4 w3.heap.size ⟨1, 0, kk / 4, 0⟩ := (hg.block _ HTK.out.lt (by intro e; have e2 := Option.some.inj e; have := HK3.out.lt; omega)).trans HTK.out; have d0 := hT4.c0; have d1 := hT4.c1; have d2 := hT4.c2; have d3 := hT4.c3; have df := hT4.f 1; have HG4 := Lib.hid (HGT.out.trans hg); have HT4 := Lib.hid (TR.over HT3.out ((grown_of_below HBT.out _).trans hg) (by omega) w3.heap.size 1 (.int .i64 m) (Nat.le_refl _)); have HR4 := Lib.hid ((HR3.out.grown (grown_of_below HBT.out _) hPl).grown hg hPl); have HZ4 : Hid (w3.heap.size < w4.heap.size) := Lib.hid hT4.lt; clear hk hg hT4)
                | (at_builtin; refine TR.push_ev (w := w4.setCell ⟨w3.heap.size, 1, none⟩ (.int .i64 m)) (N := w4.heap.size) (by simp [World.setCell]) HT4.out rfl (.tmp 36) (.tmp 38) rfl rfl rfl (by have := HR4.out.lt; simp [World.setCell]; omega) (by omega) ?_; intro v5 w5 hr5 hb5; have HT5 := Lib.hid hr5; have HG5 := Lib.hid (grown_onB (grown_setT HG4.out w3.heap.size 1 (.int .i64 m) HG3.out.size) hb5 (Nat.le_succ _)); have HR5 : Hid (PtrAt w5 w.heap.size P) := Lib.hid ((hb5.block _ (Nat.lt_succ_self _)).trans ((Below.heap_setCell w4 _ _ _ (by have := HR3.out.lt; show w.heap.size ≠ w3.heap.size; omega)).trans HR4.out)); have HK5 : Hid (SpotAt w5 P A c b.length q3) := Lib.hid ((hb5.block _ (by omega)).trans ((Below.heap_setCell w4 _ _ _ (by have := HK3.out.lt; show P ≠ w3.heap.size; omega)).trans HK4.out)); clear hr5 hb5))
              go_roundg (N - (i + 1))
              case measure => omega
              case rel => exact ⟨i + 1, q3, ys ++ [⟨1, m, kk / 4, 0⟩], by go_num, by omega, rfl, hq3, by rw [List.length_append, hyl]; rfl, HX2, HT5, HK5, HG5, HR5⟩
          · have hX := HX.out
            rw [HA.out, if_neg (by decide), if_neg (by decide)] at hX
            have HX2 : Hid (X = bnd (rtoks (N - (i + 1)) (b.drop q2)) fun zs l => .ok ((ys ++ [⟨2, 0, kk / 4, 0⟩]) ++ zs, l)) := Lib.hid (by rw [HD.out, ← bnd_snoc]; exact hX)
            have hbt : Below w3.heap.size w3 (w3.alloc (.cells #[.int .i64 2, .int .i64 0, .int .i64 (kk / 4), .int .i64 0] 111)) := (Below.refl _ _).alloc (Nat.le_refl _) _
            have HKT := Lib.hid (HK3.out.grownB hbt HK3.out.lt)
            have HGT := Lib.hid (HG3.out.trans (grown_of_below hbt (some P)))
            have HRT := Lib.hid (HR3.out.grown (grown_of_below hbt _) hPl)
            have HTT := Lib.hid (HT3.out.grown (grown_of_below hbt (some P)) (by omega))
            have HZT : Hid (w.heap.size + 1 ≤ (w3.alloc (.cells #[.int .i64 2, .int .i64 0, .int .i64 (kk / 4), .int .i64 0] 111)).heap.size) := Lib.hid HRT.out.lt
            clear hX hbt HX HN
            go_wp2_with (at_builtin; refine TR.push_ev (w := w3.alloc (.cells #[.int .i64 2, .int .i64 0, .int .i64 (kk / 4), .int .i64 0] 111)) (N := w3.heap.size + 1) (World.size_alloc _ _) HTT.out rfl (.tmp 36) (.tmp 38) rfl rfl rfl HZT.out (by omega) ?_; intro v5 w5 hr5 hb5; have HT5 := Lib.hid hr5; have HG5 := Lib.hid (grown_onB HGT.out hb5 (Nat.le_succ _)); have HR5 : Hid (PtrAt w5 w.heap.size P) := Lib.hid ((hb5.block _ (Nat.lt_succ_self _)).trans HRT.out); have HK5 : Hid (SpotAt w5 P A c b.length q2) := Lib.hid ((hb5.block _ (by omega)).trans HKT.out); clear hr5 hb5)
            go_roundg (N - (i + 1))
            case measure => omega
            case rel => exact ⟨i + 1, q2, ys ++ [⟨2, 0, kk / 4, 0⟩], by go_num, by omega, rfl, hq2, by rw [List.length_append, hyl]; rfl, HX2, HT5, HK5, HG5, HR5⟩
          · have hX := HX.out
            rw [HA.out, if_neg (by decide), if_pos (by decide)] at hX
            have hbt : Below w3.heap.size w3 (w3.alloc (.cells #[.int .i64 3, .int .i64 0, .int .i64 (kk / 4), .int .i64 0] 111)) := (Below.refl _ _).alloc (Nat.le_refl _) _
            have HTK : Hid (TokAt (w3.alloc (.cells #[.int .i64 3, .int .i64 0, .int .i64 (kk / 4), .int .i64 0] 111)) w3.heap.size ⟨3, 0, kk / 4, 0⟩) := Lib.hid (World.alloc_heap_new w3 _)
            have hGt : w.grownBy (w3.alloc (.cells #[.int .i64 3, .int .i64 0, .int .i64 (kk / 4), .int .i64 0] 111)) (some P) := HG3.out.trans (grown_of_below hbt _)
            have hKt := HK3.out.grownB hbt HK3.out.lt
            have rt := (HR3.out.grown (grown_of_below hbt _) hPl).c0
            have hCt := HG0.out _ hGt
            have HGT := Lib.hid hGt
            have HBT := Lib.hid hbt
            rcases hres : rnum 2147483647 (b.drop q2) with f | ⟨m, r⟩
            · rw [hres] at hX
              have HN2 := Lib.hid (snum_err hKt hCt hc HBB.out hq2 2147483647 (by decide) (by decide) f hres)
              have HX2 := Lib.hid (show X = .error f from hX)
              clear hres hX hbt hGt hKt hCt HX HTK
              go_wp2_with (go_at_call 131; refine HN2.out.mono ?_; rintro e w4 ⟨rfl, hg⟩; have HG4 := Lib.hid (HGT.out.trans hg); clear hg)
              exact ⟨rfl, RdP.err HX2.out HG4.out⟩
            · obtain ⟨q3, hq3, rfl, hql3, hm0, hm1⟩ := rnum_rest HBB.out hq2 hres
              have hN2 := snum_ok hKt hCt hc HBB.out hq2 2147483647 (by decide) (by decide) m _ hres
              rw [hql3] at hN2
              rw [hres] at hX
              have HN2 := Lib.hid hN2
              have HX2 : Hid (X = bnd (rtoks (N - (i + 1)) (b.drop q3)) fun zs l => .ok ((ys ++ [⟨3, m, kk / 4, 0⟩]) ++ zs, l)) := Lib.hid (by rw [HD.out, ← bnd_snoc]; exact hX)
              clear hres hX hbt hGt hKt hCt hN2 HX HN
              go_wp2_with (first
                | (go_at_call 131; refine HN2.out.mono ?_; rintro e w4 ⟨rfl, hk, hg⟩; have HK4 := Lib.hid hk; have hT4 : TokAt w4 w3.heap.size ⟨3, 0, kk / 4, 0⟩ := (hg.block _ HTK.out.lt (by intro e; have e2 := Option.some.inj e; have := HK3.out.lt; omega)).trans HTK.out; have d0 := hT4.c0; have d1 := hT4.c1; have d2 := hT4.c2; have d3 := hT4.c3; have df := hT4.f 1; have HG4 := Lib.hid (HGT.out.trans hg); have HT4 := Lib.hid (TR.over HT3.out ((grown_of_below HBT.out _).trans hg) (by omega) w3.heap.size 1 (.int .i64 m) (Nat.le_refl _)); have HR4 := Lib.hid ((HR3.out.grown (grown_of_below HBT.out _) hPl).grown hg hPl); have HZ4 : Hid (w3.heap.size < w4.heap.size) := Lib.hid hT4.lt; clear hk hg hT4)
                | (at_builtin; refine TR.push_ev (w := w4.setCell ⟨w3.heap.size, 1, none⟩ (.int .i64 m)) (N := w4.heap.size) (by simp [World.setCell]) HT4.out rfl (.tmp 36) (.tmp 38) rfl rfl rfl (by have := HR4.out.lt; simp [World.setCell]; omega) (by omega) ?_; intro v5 w5 hr5 hb5; have HT5 := Lib.hid hr5; have HG5 := Lib.hid (grown_onB (grown_setT HG4.out w3.heap.size 1 (.int .i64 m) HG3.out.size) hb5 (Nat.le_succ _)); have HR5 : Hid (PtrAt w5 w.heap.size P) := Lib.hid ((hb5.block _ (Nat.lt_succ_self _)).trans ((Below.heap_setCell w4 _ _ _ (by have := HR3.out.lt; show w.heap.size ≠ w3.heap.size; omega)).trans HR4.out)); have HK5 : Hid (SpotAt w5 P A c b.length q3) := Lib.hid ((hb5.block _ (by omega)).trans ((Below.heap_setCell w4 _ _ _ (by have := HK3.out.lt; show P ≠ w3.heap.size; omega)).trans HK4.out)); clear hr5 hb5))
              go_roundg (N - (i + 1))
              case measure => omega
              case rel => exact ⟨i + 1, q3, ys ++ [⟨3, m, kk / 4, 0⟩], by go_num, by omega, rfl, hq3, by rw [List.length_append, hyl]; rfl, HX2, HT5, HK5, HG5, HR5⟩
      · obtain rfl : i = N := by omega
        have hX := HX.out
        rw [Nat.sub_self, rtoks, bnd_ok, List.append_nil] at hX
        have HXX := Lib.hid hX
        clear hX HX
        go_wp2
        go_ret
        exact RdP.ok HXX.out HG.out (Kd.R_lower HT.out (Nat.le_succ _)) HK.out (by rw [List.length_drop]; omega)
end Go.Proofs.Ytmbnjgnmblgjoaa.Man
end

-- ReadEnt
section
/- codec's reader: an entry. Printed by wip/tools/gen_readent.py. -/


namespace Go.Proofs.Ytmbnjgnmblgjoaa.Man
open Go.RowKit Go.Proofs.YtmbnjgnmblgjoaaW.PrintWords Go.Proofs.YtmbnjgnmblgjoaaW.PrintLast Go.Proofs.YtmbnjgnmblgjoaaW.PrintMore
set_option linter.unusedVariables false
set_option linter.unusedSimpArgs false
set_option maxRecDepth 100000

/-- A call of a Go function in a region, by its contract; it may panic. -/
theorem goesP_ {P : Program} {ops : Array Oper} {Q : Exit → Act → World → Prop} {oi : Oper} {N : Option Tmp} {a : Act} {w : World} {K : Act → World → Prop} {f : FuncId} {fn : Func} {ags : Array Operand} {ts : Array TypeId} (hf : P.funcs[f]? = some fn) (hname : (fn.name == "runtime.NumGoroutine") = false) (hb : fn.body.isSome = true) (args : Array Value)
    (hw : Region.wanted oi (yielded ops a.tmps) = true) (hN : oi.dst = N) (hop : oi.op = .call { callee := .value (.func f), args := ags, argTypes := ts }) (hargs : ags.map a.eval = args)
    (h : Calls P f args w fun e w' => (∃ v, e = .returned v ∧ K (a.put N v) w') ∨ ∃ ch, e = .panicked ch ∧ Q (.panic ch) a w') : if Region.wanted oi (yielded ops a.tmps) = true then Oper.wp P oi a w K Q else K (a.put N undef) w := by
  have he := enters_ hf hname hb args w
  have hrun : (execOp a.eval oi).run P w = .ok (.enter f args) w := by
    unfold execOp
    simp [hop, resolve, Deferred.ofValue, invoke, Act.eval, hargs, he]
  rw [if_pos hw]
  subst hN
  unfold Oper.wp
  rw [hrun, Oper.upon_enter]
  refine h.mono fun e w'' hh => ?_
  rcases hh with ⟨v, rfl, hk⟩ | ⟨ch, rfl, hk⟩
  · exact hk
  · exact hk

/-- An entry's block, its slice any value. -/
def EntC (w : World) (E : Nat) (a0 a1 a2 a3 a4 a5 a6 a7 : Int) (v : Value) (a9 : Int) : Prop := w.heap[E]? = some (.cells #[.int .i64 a0, .int .i64 a1, .int .i64 a2, .int .i64 a3, .int .i64 a4, .int .i64 a5, .int .i64 a6, .int .i64 a7, v, .int .i64 a9] 26 (0, 0))
/-- What a reading of an entry stands at: the place, the reader's box, the entry's block. -/
structure EnS (w W : World) (P : Nat) (A : Option Addr) (c n q : Nat) (a0 a1 a2 a3 a4 a5 a6 a7 : Int) (v : Value) (a9 : Int) : Prop where
  spot : SpotAt W P A c n q
  ptr : PtrAt W w.heap.size P
  ent : EntC W (w.heap.size + 1) a0 a1 a2 a3 a4 a5 a6 a7 v a9
  grown : w.grownBy W (some P)
section
variable {w W W' : World} {P c n q q' : Nat} {A : Option Addr} {a0 a1 a2 a3 a4 a5 a6 a7 a9 : Int} {v : Value}
theorem EnS.size (h : EnS w W P A c n q a0 a1 a2 a3 a4 a5 a6 a7 v a9) : w.heap.size + 2 ≤ W.heap.size := (Array.getElem?_eq_some_iff.1 h.ent).1
theorem EnS.num (h : EnS w W P A c n q a0 a1 a2 a3 a4 a5 a6 a7 v a9) (hP : P < w.heap.size) (hk : SpotAt W' P A c n q') (hg : W.grownBy W' (some P)) : EnS w W' P A c n q' a0 a1 a2 a3 a4 a5 a6 a7 v a9 :=
  ⟨hk, h.ptr.grown hg hP, (hg.block _ (Array.getElem?_eq_some_iff.1 h.ent).1 (by intro e; have e2 := Option.some.inj e; omega)).trans h.ent, h.grown.trans hg⟩
theorem EnS.below (h : EnS w W P A c n q a0 a1 a2 a3 a4 a5 a6 a7 v a9) (hP : P < w.heap.size) (hb : Below W.heap.size W W') : EnS w W' P A c n q a0 a1 a2 a3 a4 a5 a6 a7 v a9 :=
  h.num hP (h.spot.below hb h.spot.lt) (grown_of_below hb _)
theorem EnS.drew (h : EnS w W P A c n q a0 a1 a2 a3 a4 a5 a6 a7 v a9) (hP : P < w.heap.size) : EnS w W.drew P A c n q a0 a1 a2 a3 a4 a5 a6 a7 v a9 := h.below hP (below_drew1 (Below.refl _ _))
theorem EnS.f (h : EnS w W P A c n q a0 a1 a2 a3 a4 a5 a6 a7 v a9) (i : Nat) : W.frozen? ⟨w.heap.size + 1, i, none⟩ = false := by simp [World.frozen?, show W.heap[w.heap.size + 1]? = _ from h.ent]
theorem EnS.put (h : EnS w W P A c n q a0 a1 a2 a3 a4 a5 a6 a7 v a9) (hP : P < w.heap.size) (i : Nat) (u : Value) {b0 b1 b2 b3 b4 b5 b6 b7 b9 : Int} {v' : Value}
    (he : (#[.int .i64 a0, .int .i64 a1, .int .i64 a2, .int .i64 a3, .int .i64 a4, .int .i64 a5, .int .i64 a6, .int .i64 a7, v, .int .i64 a9] : Array Value).setIfInBounds i u = #[.int .i64 b0, .int .i64 b1, .int .i64 b2, .int .i64 b3, .int .i64 b4, .int .i64 b5, .int .i64 b6, .int .i64 b7, v', .int .i64 b9]) :
    EnS w (W.setCell ⟨w.heap.size + 1, i, none⟩ u) P A c n q b0 b1 b2 b3 b4 b5 b6 b7 v' b9 := by
  refine ⟨(Below.heap_setCell W _ _ _ (by show P ≠ w.heap.size + 1; omega)).trans h.spot, (Below.heap_setCell W _ _ _ (by show w.heap.size ≠ w.heap.size + 1; omega)).trans h.ptr, ?_, grown_setT h.grown _ _ _ (Nat.le_succ _)⟩
  unfold EntC World.setCell
  have h1 := h.ent
  unfold EntC at h1
  have he2 := congrArg Array.toList he
  simp [Array.getElem?_modify, h1]
  simpa using he2
theorem EnS.c0 (h : EnS w W P A c n q a0 a1 a2 a3 a4 a5 a6 a7 v a9) : W.cell? ⟨w.heap.size + 1, 0, none⟩ = some (.int .i64 a0) := by simp [World.cell?, show W.heap[w.heap.size + 1]? = _ from h.ent]
theorem EnS.c1 (h : EnS w W P A c n q a0 a1 a2 a3 a4 a5 a6 a7 v a9) : W.cell? ⟨w.heap.size + 1, 1, none⟩ = some (.int .i64 a1) := by simp [World.cell?, show W.heap[w.heap.size + 1]? = _ from h.ent]
theorem EnS.c2 (h : EnS w W P A c n q a0 a1 a2 a3 a4 a5 a6 a7 v a9) : W.cell? ⟨w.heap.size + 1, 2, none⟩ = some (.int .i64 a2) := by simp [World.cell?, show W.heap[w.heap.size + 1]? = _ from h.ent]
theorem EnS.c3 (h : EnS w W P A c n q a0 a1 a2 a3 a4 a5 a6 a7 v a9) : W.cell? ⟨w.heap.size + 1, 3, none⟩ = some (.int .i64 a3) := by simp [World.cell?, show W.heap[w.heap.size + 1]? = _ from h.ent]
theorem EnS.c4 (h : EnS w W P A c n q a0 a1 a2 a3 a4 a5 a6 a7 v a9) : W.cell? ⟨w.heap.size + 1, 4, none⟩ = some (.int .i64 a4) := by simp [World.cell?, show W.heap[w.heap.size + 1]? = _ from h.ent]
theorem EnS.c5 (h : EnS w W P A c n q a0 a1 a2 a3 a4 a5 a6 a7 v a9) : W.cell? ⟨w.heap.size + 1, 5, none⟩ = some (.int .i64 a5) := by simp [World.cell?, show W.heap[w.heap.size + 1]? = _ from h.ent]
theorem EnS.c6 (h : EnS w W P A c n q a0 a1 a2 a3 a4 a5 a6 a7 v a9) : W.cell? ⟨w.heap.size + 1, 6, none⟩ = some (.int .i64 a6) := by simp [World.cell?, show W.heap[w.heap.size + 1]? = _ from h.ent]
theorem EnS.c7 (h : EnS w W P A c n q a0 a1 a2 a3 a4 a5 a6 a7 v a9) : W.cell? ⟨w.heap.size + 1, 7, none⟩ = some (.int .i64 a7) := by simp [World.cell?, show W.heap[w.heap.size + 1]? = _ from h.ent]
theorem EnS.c8 (h : EnS w W P A c n q a0 a1 a2 a3 a4 a5 a6 a7 v a9) : W.cell? ⟨w.heap.size + 1, 8, none⟩ = some (v) := by simp [World.cell?, show W.heap[w.heap.size + 1]? = _ from h.ent]
theorem EnS.c9 (h : EnS w W P A c n q a0 a1 a2 a3 a4 a5 a6 a7 v a9) : W.cell? ⟨w.heap.size + 1, 9, none⟩ = some (.int .i64 a9) := by simp [World.cell?, show W.heap[w.heap.size + 1]? = _ from h.ent]
end
theorem TR.set {w : World} {base E : Nat} {v : Value} {xs : List K.S111} (h : TR w base v xs) (hE : E < base) (k : Nat) (u : Value) : TR (w.setCell ⟨E, k, none⟩ u) base v xs := h.grown (grownBy_set w E k u (World.grownBy.refl w _)) hE
theorem RdP.err_inv {α : Type} {w : World} {P : Nat} {A : Option Addr} {c : Nat} {b : List Int} {ret : α → Value → World → Prop} {f : Int} {e : Ending} {w' : World} (h : RdP w P A c b ret (.error f) e w') : e = .panicked (errCh f) ∧ w.grownBy w' (some P) := ⟨h.2, h.1⟩
theorem RdP.ok_inv {α : Type} {w : World} {P : Nat} {A : Option Addr} {c : Nat} {b : List Int} {ret : α → Value → World → Prop} {x : α} {r : List Int} {e : Ending} {w' : World} (h : RdP w P A c b ret (.ok (x, r)) e w') : ∃ v, e = .returned v ∧ ret x v w' ∧ SpotAt w' P A c b.length (b.length - r.length) ∧ w.grownBy w' (some P) := by
  obtain ⟨hg, v, he, hv, hs⟩ := h
  exact ⟨v, he, hv, hs, hg⟩
/-- An entry handed back. -/
def EntR (base : Nat) (x : K.S26) (r : Value) (w' : World) : Prop := ∃ u, r = .agg #[.int .i64 x.f0, .int .i64 x.f1, .int .i64 x.f2.f0, .int .i64 x.f2.f1, .int .i64 x.f2.f2, .int .i64 x.f2.f3, .int .i64 x.f2.f4, .int .i64 x.f2.f5, u, .int .i64 x.f2.f7] ∧ TR w' base u x.f2.f6
def entR1.T : Bool × List (List Nat × List Nat) := (true, [([], []), ([0], [0]), ([1], [1]), ([], []), ([3], [3]), ([4, 2], [4]), ([0, 1, 2, 5], []), ([6, 2, 5, 0, 1, 2, 5], [2, 6]), ([0, 1, 2, 3, 4, 5, 6, 7], []), ([8, 5, 7, 0, 1, 2, 3, 4, 5, 6, 7], [5, 8])])
def entR1.B : List Nat := [0, 1, 3, 0, 8, 31, 63, 127, 255, 511]
theorem entR1.tab : rtab .any (opsOf Try.f94 1) = entR1.T := by kernel_rfl
theorem entR1.bits : waitsOk entR1.T.2 entR1.B = true := by kernel_rfl
def entR3.T : Bool × List (List Nat × List Nat) := (true, [([], []), ([], []), ([], []), ([], []), ([3], [3]), ([4], [4]), ([], []), ([6], [6]), ([7, 5], [7]), ([], []), ([9], [9]), ([10, 8], [10]), ([0, 0, 3, 4, 5, 8, 11], [0]), ([12, 0, 3, 4, 5, 8, 11], [12]), ([13, 5, 11, 0, 3, 4, 5, 8, 11], [5, 13]), ([1, 0, 1, 3, 4, 5, 6, 7, 8, 11, 12, 13, 14], [1]), ([15, 0, 1, 3, 4, 5, 6, 7, 8, 11, 12, 13, 14], [15]), ([16, 8, 14, 0, 1, 3, 4, 5, 6, 7, 8, 11, 12, 13, 14], [8, 16]), ([2, 0, 1, 2, 3, 4, 5, 6, 7, 8, 9, 10, 11, 12, 13, 14, 15, 16, 17], [2]), ([18, 0, 1, 2, 3, 4, 5, 6, 7, 8, 9, 10, 11, 12, 13, 14, 15, 16, 17], [18]), ([19, 11, 17, 0, 1, 2, 3, 4, 5, 6, 7, 8, 9, 10, 11, 12, 13, 14, 15, 16, 17], [11, 19])])
def entR3.B : List Nat := [0, 0, 0, 0, 8, 24, 0, 64, 248, 0, 512, 2040, 4089, 8185, 16377, 32763, 65531, 131067, 262143, 524287, 1048575]
theorem entR3.tab : rtab .any (opsOf Try.f94 3) = entR3.T := by kernel_rfl
theorem entR3.bits : waitsOk entR3.T.2 entR3.B = true := by kernel_rfl
def entR10.T : Bool × List (List Nat × List Nat) := (true, [([], []), ([], []), ([], []), ([], []), ([3], [3]), ([4], [4]), ([], []), ([6], [6]), ([7, 5], [7]), ([], []), ([9], [9]), ([10, 8], [10]), ([0, 0, 3, 4, 5, 8, 11], [0]), ([12, 0, 3, 4, 5, 8, 11], [12]), ([13, 5, 11, 0, 3, 4, 5, 8, 11], [5, 13]), ([1, 0, 1, 3, 4, 5, 6, 7, 8, 11, 12, 13, 14], [1]), ([15, 0, 1, 3, 4, 5, 6, 7, 8, 11, 12, 13, 14], [15]), ([16, 8, 14, 0, 1, 3, 4, 5, 6, 7, 8, 11, 12, 13, 14], [8, 16]), ([2, 0, 1, 2, 3, 4, 5, 6, 7, 8, 9, 10, 11, 12, 13, 14, 15, 16, 17], [2]), ([18, 0, 1, 2, 3, 4, 5, 6, 7, 8, 9, 10, 11, 12, 13, 14, 15, 16, 17], [18]), ([19, 11, 17, 0, 1, 2, 3, 4, 5, 6, 7, 8, 9, 10, 11, 12, 13, 14, 15, 16, 17], [11, 19])])
def entR10.B : List Nat := [0, 0, 0, 0, 8, 24, 0, 64, 248, 0, 512, 2040, 4089, 8185, 16377, 32763, 65531, 131067, 262143, 524287, 1048575]
theorem entR10.tab : rtab .any (opsOf Try.f94 10) = entR10.T := by kernel_rfl
theorem entR10.bits : waitsOk entR10.T.2 entR10.B = true := by kernel_rfl
set_option maxHeartbeats 16000000 in
theorem sent_is {w0 w : World} {P c p : Nat} {A : Option Addr} {b : List Int} (hC : Kd.C (Kd.int .u8) w0 A b.length b) (hc : b.length ≤ c) (hB : areBytesN b = true) (hb : Below w0.heap.size w0 w) (hP : w0.heap.size ≤ P) (k : SpotAt w P A c b.length p) (hp : p ≤ b.length) :
    Calls Try.prog 94 #[.agg #[.pointer (some ⟨P, 0, none⟩)]] w (RdP w P A c b (EntR w.heap.size) (rent (b.drop p))) := by
  have hPl := k.lt
  obtain ⟨w2, hw2⟩ : ∃ w2, w2 = (w.alloc (.cells #[.pointer (some ⟨P, 0, none⟩)] 140)).alloc (.cells #[.int .i64 0, .int .i64 0, .int .i64 0, .int .i64 0, .int .i64 0, .int .i64 0, .int .i64 0, .int .i64 0, .slice none 0 0, .int .i64 0] 26) := ⟨_, rfl⟩
  have hb2 : Below w.heap.size w w2 := by rw [hw2]; exact ((Below.refl _ _).alloc (Nat.le_refl _) _).alloc (by simp) _
  have hE2 : EnS w w2 P A c b.length p 0 0 0 0 0 0 0 0 (.slice none 0 0) 0 := by
    refine ⟨k.below hb2 hPl, ?_, ?_, grown_of_below hb2 _⟩
    · rw [hw2]; exact (Below.heap_alloc _ _ _ (by simp)).trans (World.alloc_heap_new w _)
    · rw [hw2]
      have := World.alloc_heap_new (w.alloc (.cells #[.pointer (some ⟨P, 0, none⟩)] 140)) (.cells #[.int .i64 0, .int .i64 0, .int .i64 0, .int .i64 0, .int .i64 0, .int .i64 0, .int .i64 0, .int .i64 0, .slice none 0 0, .int .i64 0] 26)
      rwa [World.size_alloc] at this
  have HG0 := Lib.hid (fun (W : World) (hg : w.grownBy W (some P)) => Kd.C_below hC (below_of_grown hb hg hP))
  have HBB := Lib.hid hB
  have HC := Lib.hid hC
  have HB0 := Lib.hid hb
  obtain ⟨X, hX⟩ : ∃ X, rent (b.drop p) = X := ⟨_, rfl⟩
  rw [hX]
  unfold rent most at hX
  have HX0 := Lib.hid hX.symm
  have HE2 := Lib.hid (hE2.drew hPl)
  have HW2 := Lib.hid hw2
  clear hC hB hb k hX hb2 hE2
  go_enter Try.func94, Try.ntmps94
  go_upto_region 1 with (fail)
  rw [← HW2.out]
  clear hw2
  refine start_ (n := 10) (S := fun w' => w'.cell? ⟨w.heap.size, 0, none⟩ = some (.pointer (some ⟨P, 0, none⟩))) (ds := []) #[false, false, false, false, false, false, false, false, false, false] (by kernel_rfl) rfl rfl HE2.out.ptr.c0 (fun hHeld => ?_); refine with_tabW entR1.tab entR1.bits (fun HT_ HW_ => ?_)
  refine pure_ (i := 0) (N := (some 4)) (v := ?_) (a' := ?_) #[true, false, false, false, false, false, false, false, false, false] rfl rfl (any_of HT_.out (by kernel_rfl)) (fun _ _ _ h => h) (Or.inl ⟨by rfl, ?_⟩) ?_ ?_
  rotate_left
  · intro w'
    go_simp
    with_reducible rfl
  rotate_left
  · simp only [Act.put, List.setIfInBounds_toArray, List.set_cons_zero, List.set_cons_succ, i64_w, i32_w]
    rfl
  refine pure_ (i := 3) (N := (some 7)) (v := ?_) (a' := ?_) #[true, false, false, true, false, false, false, false, false, false] rfl rfl (any_of HT_.out (by kernel_rfl)) (fun _ _ _ h => h) (Or.inl ⟨by rfl, ?_⟩) ?_ ?_
  rotate_left
  · intro w'
    go_simp
    with_reducible rfl
  rotate_left
  · simp only [Act.put, List.setIfInBounds_toArray, List.set_cons_zero, List.set_cons_succ, i64_w, i32_w]
    rfl
  refine take_ (i := 1) (N := (some 5)) (v := ?_) (a' := ?_) #[true, true, false, true, false, false, false, false, false, false] rfl rfl (take_ofW HT_.out HW_.out (by kernel_rfl)) (fun _ _ _ h => h) (Or.inl ⟨by rfl, ?_⟩) hHeld ?_ ?_
  rotate_left
  · rintro w' s0
    go_simp
    with_reducible rfl
  rotate_left
  · simp only [Act.put, List.setIfInBounds_toArray, List.set_cons_zero, List.set_cons_succ, i64_w, i32_w]
    rfl
  refine take_ (i := 4) (N := (some 8)) (v := ?_) (a' := ?_) #[true, true, false, true, true, false, false, false, false, false] rfl rfl (take_ofW HT_.out HW_.out (by kernel_rfl)) (fun _ _ _ h => h) (Or.inl ⟨by rfl, ?_⟩) hHeld ?_ ?_
  rotate_left
  · rintro w' s0
    go_simp
    with_reducible rfl
  rotate_left
  · simp only [Act.put, List.setIfInBounds_toArray, List.set_cons_zero, List.set_cons_succ, i64_w, i32_w]
    rfl
  refine one_ (i := 2) (N := (some 6)) #[true, true, true, true, true, false, false, false, false, false] rfl rfl (one_of HT_.out (by kernel_rfl)) (by decide) (fun K hK => ?_)
  have hX := HX0.out
  rcases hres : rnum 2147483647 (b.drop p) with f | ⟨who, r⟩
  · rw [hres, bnd_err] at hX
    refine goesP_ Try.func131 (by kernel_rfl) rfl #[.pointer (some ⟨P, 0, none⟩), .int .i64 2147483647] (by rfl) rfl rfl (by (try simp only [List.map_toArray, List.map_cons, List.map_nil]); first | done | rfl) ?_
    refine (snum_err HE2.out.spot (HG0.out _ HE2.out.grown) hc HBB.out hp 2147483647 (by decide) (by decide) f hres).mono ?_
    rintro e w' ⟨rfl, hg⟩
    exact .inr ⟨_, rfl, And.intro rfl (RdP.err hX (HE2.out.grown.trans hg))⟩
  obtain ⟨q1, hq1, rfl, hql, hn0who, hn1who⟩ := rnum_rest HBB.out hp hres
  rw [hres, bnd_ok] at hX
  have HX1 := Lib.hid hX
  refine goesP_ Try.func131 (by kernel_rfl) rfl #[.pointer (some ⟨P, 0, none⟩), .int .i64 2147483647] (by rfl) rfl rfl (by (try simp only [List.map_toArray, List.map_cons, List.map_nil]); first | done | rfl) ?_
  refine (snum_ok HE2.out.spot (HG0.out _ HE2.out.grown) hc HBB.out hp 2147483647 (by decide) (by decide) who _ hres).mono ?_
  rintro e v3 ⟨rfl, hk, hg⟩
  rw [hql] at hk
  have HE3 := Lib.hid (HE2.out.num hPl hk hg)
  clear hk hg hres hX hql HX0 HE2
  refine .inl ⟨_, rfl, ?_⟩
  refine hK.out _ _ HE3.out.ptr.c0 (fun hHeld => ?_)
  clear hK K
  refine norm_ (a' := ?_) ?_ ?_
  rotate_left
  · show Act.put _ (some 6) _ = _
    simp only [Act.put, List.setIfInBounds_toArray, List.set_cons_zero, List.set_cons_succ, i64_w, i32_w]
    rfl
  refine one_ (i := 5) (N := (some 9)) #[true, true, true, true, true, true, false, false, false, false] rfl rfl (one_of HT_.out (by kernel_rfl)) (by decide) (fun K hK => ?_)
  have hX := HX1.out
  rcases hres : rnum 2147483647 (b.drop q1) with f | ⟨seq, r⟩
  · rw [hres, bnd_err] at hX
    refine goesP_ Try.func131 (by kernel_rfl) rfl #[.pointer (some ⟨P, 0, none⟩), .int .i64 2147483647] (by rfl) rfl rfl (by (try simp only [List.map_toArray, List.map_cons, List.map_nil]); first | done | rfl) ?_
    refine (snum_err HE3.out.spot (HG0.out _ HE3.out.grown) hc HBB.out hq1 2147483647 (by decide) (by decide) f hres).mono ?_
    rintro e w' ⟨rfl, hg⟩
    exact .inr ⟨_, rfl, And.intro rfl (RdP.err hX (HE3.out.grown.trans hg))⟩
  obtain ⟨q2, hq2, rfl, hql, hn0seq, hn1seq⟩ := rnum_rest HBB.out hq1 hres
  rw [hres, bnd_ok] at hX
  have HX2 := Lib.hid hX
  refine goesP_ Try.func131 (by kernel_rfl) rfl #[.pointer (some ⟨P, 0, none⟩), .int .i64 2147483647] (by rfl) rfl rfl (by (try simp only [List.map_toArray, List.map_cons, List.map_nil]); first | done | rfl) ?_
  refine (snum_ok HE3.out.spot (HG0.out _ HE3.out.grown) hc HBB.out hq1 2147483647 (by decide) (by decide) seq _ hres).mono ?_
  rintro e v4 ⟨rfl, hk, hg⟩
  rw [hql] at hk
  have HE4 := Lib.hid (HE3.out.num hPl hk hg)
  clear hk hg hres hX hql HX1 HE3
  refine .inl ⟨_, rfl, ?_⟩
  refine hK.out _ _ HE4.out.ptr.c0 (fun hHeld => ?_)
  clear hK K
  refine norm_ (a' := ?_) ?_ ?_
  rotate_left
  · show Act.put _ (some 9) _ = _
    simp only [Act.put, List.setIfInBounds_toArray, List.set_cons_zero, List.set_cons_succ, i64_w, i32_w]
    rfl
  refine pure_ (i := 6) (N := (some 10)) (v := ?_) (a' := ?_) #[true, true, true, true, true, true, true, false, false, false] rfl rfl (any_of HT_.out (by kernel_rfl)) (fun _ _ _ h => h) (Or.inl ⟨by rfl, ?_⟩) ?_ ?_
  rotate_left
  · intro w'
    go_simp
    with_reducible rfl
  rotate_left
  · simp only [Act.put, List.setIfInBounds_toArray, List.set_cons_zero, List.set_cons_succ, i64_w, i32_w]
    rfl
  refine one_ (i := 7) (N := none) #[true, true, true, true, true, true, true, true, false, false] rfl rfl (one_of HT_.out (by kernel_rfl)) (by decide) (fun K hK => ?_)
  have hcc := HE4.out.c0
  have hff := HE4.out.f 0
  refine skip_ (w1 := (v4.setCell ⟨w.heap.size + 1, 0, none⟩ (.int .i64 who))) (by rfl) rfl ?_ ?_
  · go_simp
    try rfl
  have HE5 : Hid (EnS w (v4.setCell ⟨w.heap.size + 1, 0, none⟩ (.int .i64 who)) P A c b.length q2 who 0 0 0 0 0 0 0 (.slice none 0 0) 0) := Lib.hid (HE4.out.put hPl 0 (.int .i64 who) rfl)
  clear hcc hff HE4
  refine hK.out _ _ HE5.out.ptr.c0 (fun hHeld => ?_)
  clear hK K
  refine pure_ (i := 8) (N := (some 11)) (v := ?_) (a' := ?_) #[true, true, true, true, true, true, true, true, true, false] rfl rfl (any_of HT_.out (by kernel_rfl)) (fun _ _ _ h => h) (Or.inl ⟨by rfl, ?_⟩) ?_ ?_
  rotate_left
  · intro w'
    go_simp
    with_reducible rfl
  rotate_left
  · simp only [Act.put, List.setIfInBounds_toArray, List.set_cons_zero, List.set_cons_succ, i64_w, i32_w]
    rfl
  refine one_ (i := 9) (N := none) #[true, true, true, true, true, true, true, true, true, true] rfl rfl (one_of HT_.out (by kernel_rfl)) (by decide) (fun K hK => ?_)
  have hcc := HE5.out.c1
  have hff := HE5.out.f 1
  refine skip_ (w1 := ((v4.setCell ⟨w.heap.size + 1, 0, none⟩ (.int .i64 who)).setCell ⟨w.heap.size + 1, 1, none⟩ (.int .i64 seq))) (by rfl) rfl ?_ ?_
  · go_simp
    try rfl
  have HE6 : Hid (EnS w ((v4.setCell ⟨w.heap.size + 1, 0, none⟩ (.int .i64 who)).setCell ⟨w.heap.size + 1, 1, none⟩ (.int .i64 seq)) P A c b.length q2 who seq 0 0 0 0 0 0 (.slice none 0 0) 0) := Lib.hid (HE5.out.put hPl 1 (.int .i64 seq) rfl)
  clear hcc hff HE5
  refine hK.out _ _ HE6.out.ptr.c0 (fun hHeld => ?_)
  clear hK K
  refine done_ (done_of HT_.out (by kernel_rfl)) ?_
  go_upto_region 3 with (fail)
  have HE7 := Lib.hid (HE6.out.drew hPl)
  refine start_ (n := 21) (S := fun w' => w'.cell? ⟨w.heap.size, 0, none⟩ = some (.pointer (some ⟨P, 0, none⟩))) (ds := []) #[false, false, false, false, false, false, false, false, false, false, false, false, false, false, false, false, false, false, false, false, false] (by kernel_rfl) rfl rfl HE7.out.ptr.c0 (fun hHeld => ?_); refine with_tabW entR3.tab entR3.bits (fun HT_ HW_ => ?_)
  refine pure_ (i := 0) (N := (some 13)) (v := ?_) (a' := ?_) #[true, false, false, false, false, false, false, false, false, false, false, false, false, false, false, false, false, false, false, false, false] rfl rfl (any_of HT_.out (by kernel_rfl)) (fun _ _ _ h => h) (Or.inl ⟨by rfl, ?_⟩) ?_ ?_
  rotate_left
  · intro w'
    go_simp
    with_reducible rfl
  rotate_left
  · simp only [Act.put, List.setIfInBounds_toArray, List.set_cons_zero, List.set_cons_succ, i64_w, i32_w]
    rfl
  refine pure_ (i := 1) (N := (some 14)) (v := ?_) (a' := ?_) #[true, true, false, false, false, false, false, false, false, false, false, false, false, false, false, false, false, false, false, false, false] rfl rfl (any_of HT_.out (by kernel_rfl)) (fun _ _ _ h => h) (Or.inl ⟨by rfl, ?_⟩) ?_ ?_
  rotate_left
  · intro w'
    go_simp
    with_reducible rfl
  rotate_left
  · simp only [Act.put, List.setIfInBounds_toArray, List.set_cons_zero, List.set_cons_succ, i64_w, i32_w]
    rfl
  refine pure_ (i := 2) (N := (some 15)) (v := ?_) (a' := ?_) #[true, true, true, false, false, false, false, false, false, false, false, false, false, false, false, false, false, false, false, false, false] rfl rfl (any_of HT_.out (by kernel_rfl)) (fun _ _ _ h => h) (Or.inl ⟨by rfl, ?_⟩) ?_ ?_
  rotate_left
  · intro w'
    go_simp
    with_reducible rfl
  rotate_left
  · simp only [Act.put, List.setIfInBounds_toArray, List.set_cons_zero, List.set_cons_succ, i64_w, i32_w]
    rfl
  refine pure_ (i := 3) (N := (some 16)) (v := ?_) (a' := ?_) #[true, true, true, true, false, false, false, false, false, false, false, false, false, false, false, false, false, false, false, false, false] rfl rfl (any_of HT_.out (by kernel_rfl)) (fun _ _ _ h => h) (Or.inl ⟨by rfl, ?_⟩) ?_ ?_
  rotate_left
  · intro w'
    go_simp
    with_reducible rfl
  rotate_left
  · simp only [Act.put, List.setIfInBounds_toArray, List.set_cons_zero, List.set_cons_succ, i64_w, i32_w]
    rfl
  refine pure_ (i := 6) (N := (some 19)) (v := ?_) (a' := ?_) #[true, true, true, true, false, false, true, false, false, false, false, false, false, false, false, false, false, false, false, false, false] rfl rfl (any_of HT_.out (by kernel_rfl)) (fun _ _ _ h => h) (Or.inl ⟨by rfl, ?_⟩) ?_ ?_
  rotate_left
  · intro w'
    go_simp
    with_reducible rfl
  rotate_left
  · simp only [Act.put, List.setIfInBounds_toArray, List.set_cons_zero, List.set_cons_succ, i64_w, i32_w]
    rfl
  refine pure_ (i := 9) (N := (some 22)) (v := ?_) (a' := ?_) #[true, true, true, true, false, false, true, false, false, true, false, false, false, false, false, false, false, false, false, false, false] rfl rfl (any_of HT_.out (by kernel_rfl)) (fun _ _ _ h => h) (Or.inl ⟨by rfl, ?_⟩) ?_ ?_
  rotate_left
  · intro w'
    go_simp
    with_reducible rfl
  rotate_left
  · simp only [Act.put, List.setIfInBounds_toArray, List.set_cons_zero, List.set_cons_succ, i64_w, i32_w]
    rfl
  refine take_ (i := 4) (N := (some 17)) (v := ?_) (a' := ?_) #[true, true, true, true, true, false, true, false, false, true, false, false, false, false, false, false, false, false, false, false, false] rfl rfl (take_ofW HT_.out HW_.out (by kernel_rfl)) (fun _ _ _ h => h) (Or.inl ⟨by rfl, ?_⟩) hHeld ?_ ?_
  rotate_left
  · rintro w' s0
    go_simp
    with_reducible rfl
  rotate_left
  · simp only [Act.put, List.setIfInBounds_toArray, List.set_cons_zero, List.set_cons_succ, i64_w, i32_w]
    rfl
  refine take_ (i := 7) (N := (some 20)) (v := ?_) (a' := ?_) #[true, true, true, true, true, false, true, true, false, true, false, false, false, false, false, false, false, false, false, false, false] rfl rfl (take_ofW HT_.out HW_.out (by kernel_rfl)) (fun _ _ _ h => h) (Or.inl ⟨by rfl, ?_⟩) hHeld ?_ ?_
  rotate_left
  · rintro w' s0
    go_simp
    with_reducible rfl
  rotate_left
  · simp only [Act.put, List.setIfInBounds_toArray, List.set_cons_zero, List.set_cons_succ, i64_w, i32_w]
    rfl
  refine take_ (i := 10) (N := (some 23)) (v := ?_) (a' := ?_) #[true, true, true, true, true, false, true, true, false, true, true, false, false, false, false, false, false, false, false, false, false] rfl rfl (take_ofW HT_.out HW_.out (by kernel_rfl)) (fun _ _ _ h => h) (Or.inl ⟨by rfl, ?_⟩) hHeld ?_ ?_
  rotate_left
  · rintro w' s0
    go_simp
    with_reducible rfl
  rotate_left
  · simp only [Act.put, List.setIfInBounds_toArray, List.set_cons_zero, List.set_cons_succ, i64_w, i32_w]
    rfl
  refine one_ (i := 5) (N := (some 18)) #[true, true, true, true, true, true, true, true, false, true, true, false, false, false, false, false, false, false, false, false, false] rfl rfl (one_of HT_.out (by kernel_rfl)) (by decide) (fun K hK => ?_)
  have hX := HX2.out
  rcases hres : rnum 3 (b.drop q2) with f | ⟨kk, r⟩
  · rw [hres, bnd_err] at hX
    refine goesP_ Try.func131 (by kernel_rfl) rfl #[.pointer (some ⟨P, 0, none⟩), .int .i64 3] (by rfl) rfl rfl (by (try simp only [List.map_toArray, List.map_cons, List.map_nil]); first | done | rfl) ?_
    refine (snum_err HE7.out.spot (HG0.out _ HE7.out.grown) hc HBB.out hq2 3 (by decide) (by decide) f hres).mono ?_
    rintro e w' ⟨rfl, hg⟩
    exact .inr ⟨_, rfl, And.intro rfl (RdP.err hX (HE7.out.grown.trans hg))⟩
  obtain ⟨q3, hq3, rfl, hql, hn0kk, hn1kk⟩ := rnum_rest HBB.out hq2 hres
  rw [hres, bnd_ok] at hX
  have HX3 := Lib.hid hX
  refine goesP_ Try.func131 (by kernel_rfl) rfl #[.pointer (some ⟨P, 0, none⟩), .int .i64 3] (by rfl) rfl rfl (by (try simp only [List.map_toArray, List.map_cons, List.map_nil]); first | done | rfl) ?_
  refine (snum_ok HE7.out.spot (HG0.out _ HE7.out.grown) hc HBB.out hq2 3 (by decide) (by decide) kk _ hres).mono ?_
  rintro e v8 ⟨rfl, hk, hg⟩
  rw [hql] at hk
  have HE8 := Lib.hid (HE7.out.num hPl hk hg)
  clear hk hg hres hX hql HX2 HE7
  refine .inl ⟨_, rfl, ?_⟩
  refine hK.out _ _ HE8.out.ptr.c0 (fun hHeld => ?_)
  clear hK K
  refine norm_ (a' := ?_) ?_ ?_
  rotate_left
  · show Act.put _ (some 18) _ = _
    simp only [Act.put, List.setIfInBounds_toArray, List.set_cons_zero, List.set_cons_succ, i64_w, i32_w]
    rfl
  refine one_ (i := 8) (N := (some 21)) #[true, true, true, true, true, true, true, true, true, true, true, false, false, false, false, false, false, false, false, false, false] rfl rfl (one_of HT_.out (by kernel_rfl)) (by decide) (fun K hK => ?_)
  have hX := HX3.out
  rcases hres : rnum 2147483647 (b.drop q3) with f | ⟨fm, r⟩
  · rw [hres, bnd_err] at hX
    refine goesP_ Try.func131 (by kernel_rfl) rfl #[.pointer (some ⟨P, 0, none⟩), .int .i64 2147483647] (by rfl) rfl rfl (by (try simp only [List.map_toArray, List.map_cons, List.map_nil]); first | done | rfl) ?_
    refine (snum_err HE8.out.spot (HG0.out _ HE8.out.grown) hc HBB.out hq3 2147483647 (by decide) (by decide) f hres).mono ?_
    rintro e w' ⟨rfl, hg⟩
    exact .inr ⟨_, rfl, And.intro rfl (RdP.err hX (HE8.out.grown.trans hg))⟩
  obtain ⟨q4, hq4, rfl, hql, hn0fm, hn1fm⟩ := rnum_rest HBB.out hq3 hres
  rw [hres, bnd_ok] at hX
  have HX4 := Lib.hid hX
  refine goesP_ Try.func131 (by kernel_rfl) rfl #[.pointer (some ⟨P, 0, none⟩), .int .i64 2147483647] (by rfl) rfl rfl (by (try simp only [List.map_toArray, List.map_cons, List.map_nil]); first | done | rfl) ?_
  refine (snum_ok HE8.out.spot (HG0.out _ HE8.out.grown) hc HBB.out hq3 2147483647 (by decide) (by decide) fm _ hres).mono ?_
  rintro e v9 ⟨rfl, hk, hg⟩
  rw [hql] at hk
  have HE9 := Lib.hid (HE8.out.num hPl hk hg)
  clear hk hg hres hX hql HX3 HE8
  refine .inl ⟨_, rfl, ?_⟩
  refine hK.out _ _ HE9.out.ptr.c0 (fun hHeld => ?_)
  clear hK K
  refine norm_ (a' := ?_) ?_ ?_
  rotate_left
  · show Act.put _ (some 21) _ = _
    simp only [Act.put, List.setIfInBounds_toArray, List.set_cons_zero, List.set_cons_succ, i64_w, i32_w]
    rfl
  refine one_ (i := 11) (N := (some 24)) #[true, true, true, true, true, true, true, true, true, true, true, true, false, false, false, false, false, false, false, false, false] rfl rfl (one_of HT_.out (by kernel_rfl)) (by decide) (fun K hK => ?_)
  have hX := HX4.out
  rcases hres : rnum 2147483647 (b.drop q4) with f | ⟨tt, r⟩
  · rw [hres, bnd_err] at hX
    refine goesP_ Try.func131 (by kernel_rfl) rfl #[.pointer (some ⟨P, 0, none⟩), .int .i64 2147483647] (by rfl) rfl rfl (by (try simp only [List.map_toArray, List.map_cons, List.map_nil]); first | done | rfl) ?_
    refine (snum_err HE9.out.spot (HG0.out _ HE9.out.grown) hc HBB.out hq4 2147483647 (by decide) (by decide) f hres).mono ?_
    rintro e w' ⟨rfl, hg⟩
    exact .inr ⟨_, rfl, And.intro rfl (RdP.err hX (HE9.out.grown.trans hg))⟩
  obtain ⟨q5, hq5, rfl, hql, hn0tt, hn1tt⟩ := rnum_rest HBB.out hq4 hres
  rw [hres, bnd_ok] at hX
  have HX5 := Lib.hid hX
  refine goesP_ Try.func131 (by kernel_rfl) rfl #[.pointer (some ⟨P, 0, none⟩), .int .i64 2147483647] (by rfl) rfl rfl (by (try simp only [List.map_toArray, List.map_cons, List.map_nil]); first | done | rfl) ?_
  refine (snum_ok HE9.out.spot (HG0.out _ HE9.out.grown) hc HBB.out hq4 2147483647 (by decide) (by decide) tt _ hres).mono ?_
  rintro e v10 ⟨rfl, hk, hg⟩
  rw [hql] at hk
  have HE10 := Lib.hid (HE9.out.num hPl hk hg)
  clear hk hg hres hX hql HX4 HE9
  refine .inl ⟨_, rfl, ?_⟩
  refine hK.out _ _ HE10.out.ptr.c0 (fun hHeld => ?_)
  clear hK K
  refine norm_ (a' := ?_) ?_ ?_
  rotate_left
  · show Act.put _ (some 24) _ = _
    simp only [Act.put, List.setIfInBounds_toArray, List.set_cons_zero, List.set_cons_succ, i64_w, i32_w]
    rfl
  refine pure_ (i := 12) (N := (some 25)) (v := ?_) (a' := ?_) #[true, true, true, true, true, true, true, true, true, true, true, true, true, false, false, false, false, false, false, false, false] rfl rfl (any_of HT_.out (by kernel_rfl)) (fun _ _ _ h => h) (Or.inl ⟨by rfl, ?_⟩) ?_ ?_
  rotate_left
  · intro w'
    go_simp
    with_reducible rfl
  rotate_left
  · simp only [Act.put, List.setIfInBounds_toArray, List.set_cons_zero, List.set_cons_succ, i64_w, i32_w]
    rfl
  refine pure_ (i := 13) (N := (some 26)) (v := ?_) (a' := ?_) #[true, true, true, true, true, true, true, true, true, true, true, true, true, true, false, false, false, false, false, false, false] rfl rfl (any_of HT_.out (by kernel_rfl)) (fun _ _ _ h => h) (Or.inl ⟨by rfl, ?_⟩) ?_ ?_
  rotate_left
  · intro w'
    go_simp
    with_reducible rfl
  rotate_left
  · simp only [Act.put, List.setIfInBounds_toArray, List.set_cons_zero, List.set_cons_succ, i64_w, i32_w]
    rfl
  refine one_ (i := 14) (N := none) #[true, true, true, true, true, true, true, true, true, true, true, true, true, true, true, false, false, false, false, false, false] rfl rfl (one_of HT_.out (by kernel_rfl)) (by decide) (fun K hK => ?_)
  have hcc := HE10.out.c2
  have hff := HE10.out.f 2
  refine skip_ (w1 := (v10.setCell ⟨w.heap.size + 1, 2, none⟩ (.int .i64 kk))) (by rfl) rfl ?_ ?_
  · go_simp
    try rfl
  have HE11 : Hid (EnS w (v10.setCell ⟨w.heap.size + 1, 2, none⟩ (.int .i64 kk)) P A c b.length q5 who seq kk 0 0 0 0 0 (.slice none 0 0) 0) := Lib.hid (HE10.out.put hPl 2 (.int .i64 kk) rfl)
  clear hcc hff HE10
  refine hK.out _ _ HE11.out.ptr.c0 (fun hHeld => ?_)
  clear hK K
  refine pure_ (i := 15) (N := (some 27)) (v := ?_) (a' := ?_) #[true, true, true, true, true, true, true, true, true, true, true, true, true, true, true, true, false, false, false, false, false] rfl rfl (any_of HT_.out (by kernel_rfl)) (fun _ _ _ h => h) (Or.inl ⟨by rfl, ?_⟩) ?_ ?_
  rotate_left
  · intro w'
    go_simp
    with_reducible rfl
  rotate_left
  · simp only [Act.put, List.setIfInBounds_toArray, List.set_cons_zero, List.set_cons_succ, i64_w, i32_w]
    rfl
  refine pure_ (i := 16) (N := (some 28)) (v := ?_) (a' := ?_) #[true, true, true, true, true, true, true, true, true, true, true, true, true, true, true, true, true, false, false, false, false] rfl rfl (any_of HT_.out (by kernel_rfl)) (fun _ _ _ h => h) (Or.inl ⟨by rfl, ?_⟩) ?_ ?_
  rotate_left
  · intro w'
    go_simp
    with_reducible rfl
  rotate_left
  · simp only [Act.put, List.setIfInBounds_toArray, List.set_cons_zero, List.set_cons_succ, i64_w, i32_w]
    rfl
  refine one_ (i := 17) (N := none) #[true, true, true, true, true, true, true, true, true, true, true, true, true, true, true, true, true, true, false, false, false] rfl rfl (one_of HT_.out (by kernel_rfl)) (by decide) (fun K hK => ?_)
  have hcc := HE11.out.c3
  have hff := HE11.out.f 3
  refine skip_ (w1 := ((v10.setCell ⟨w.heap.size + 1, 2, none⟩ (.int .i64 kk)).setCell ⟨w.heap.size + 1, 3, none⟩ (.int .i64 fm))) (by rfl) rfl ?_ ?_
  · go_simp
    try rfl
  have HE12 : Hid (EnS w ((v10.setCell ⟨w.heap.size + 1, 2, none⟩ (.int .i64 kk)).setCell ⟨w.heap.size + 1, 3, none⟩ (.int .i64 fm)) P A c b.length q5 who seq kk fm 0 0 0 0 (.slice none 0 0) 0) := Lib.hid (HE11.out.put hPl 3 (.int .i64 fm) rfl)
  clear hcc hff HE11
  refine hK.out _ _ HE12.out.ptr.c0 (fun hHeld => ?_)
  clear hK K
  refine pure_ (i := 18) (N := (some 29)) (v := ?_) (a' := ?_) #[true, true, true, true, true, true, true, true, true, true, true, true, true, true, true, true, true, true, true, false, false] rfl rfl (any_of HT_.out (by kernel_rfl)) (fun _ _ _ h => h) (Or.inl ⟨by rfl, ?_⟩) ?_ ?_
  rotate_left
  · intro w'
    go_simp
    with_reducible rfl
  rotate_left
  · simp only [Act.put, List.setIfInBounds_toArray, List.set_cons_zero, List.set_cons_succ, i64_w, i32_w]
    rfl
  refine pure_ (i := 19) (N := (some 30)) (v := ?_) (a' := ?_) #[true, true, true, true, true, true, true, true, true, true, true, true, true, true, true, true, true, true, true, true, false] rfl rfl (any_of HT_.out (by kernel_rfl)) (fun _ _ _ h => h) (Or.inl ⟨by rfl, ?_⟩) ?_ ?_
  rotate_left
  · intro w'
    go_simp
    with_reducible rfl
  rotate_left
  · simp only [Act.put, List.setIfInBounds_toArray, List.set_cons_zero, List.set_cons_succ, i64_w, i32_w]
    rfl
  refine one_ (i := 20) (N := none) #[true, true, true, true, true, true, true, true, true, true, true, true, true, true, true, true, true, true, true, true, true] rfl rfl (one_of HT_.out (by kernel_rfl)) (by decide) (fun K hK => ?_)
  have hcc := HE12.out.c4
  have hff := HE12.out.f 4
  refine skip_ (w1 := (((v10.setCell ⟨w.heap.size + 1, 2, none⟩ (.int .i64 kk)).setCell ⟨w.heap.size + 1, 3, none⟩ (.int .i64 fm)).setCell ⟨w.heap.size + 1, 4, none⟩ (.int .i64 tt))) (by rfl) rfl ?_ ?_
  · go_simp
    try rfl
  have HE13 : Hid (EnS w (((v10.setCell ⟨w.heap.size + 1, 2, none⟩ (.int .i64 kk)).setCell ⟨w.heap.size + 1, 3, none⟩ (.int .i64 fm)).setCell ⟨w.heap.size + 1, 4, none⟩ (.int .i64 tt)) P A c b.length q5 who seq kk fm tt 0 0 0 (.slice none 0 0) 0) := Lib.hid (HE12.out.put hPl 4 (.int .i64 tt) rfl)
  clear hcc hff HE12
  refine hK.out _ _ HE13.out.ptr.c0 (fun hHeld => ?_)
  clear hK K
  refine done_ (done_of HT_.out (by kernel_rfl)) ?_
  have hkk : kk = 2 ∨ kk = 3 ∨ kk = 1 ∨ kk = 0 := by omega
  rcases hkk with rfl | rfl | rfl | rfl
  · have hX := HX5.out
    rw [if_pos (by decide)] at hX
    have c2 := HE13.out.c2
    have r0 := HE13.out.ptr.c0
    rcases hres : rnum 2147483647 (b.drop q5) with f | ⟨mk, r⟩
    · rw [hres, bnd_err] at hX
      have HN := Lib.hid (snum_err HE13.out.spot (HG0.out _ HE13.out.grown) hc HBB.out hq5 2147483647 (by decide) (by decide) f hres)
      have HX := Lib.hid hX
      clear hX hres HX5
      go_wp2_with (go_at_call 131; refine HN.out.mono ?_; rintro e w7 ⟨rfl, hg⟩; have HG7 := Lib.hid (HE13.out.grown.trans hg); clear hg)
      exact ⟨rfl, RdP.err HX.out HG7.out⟩
    · obtain ⟨q9, hq9, rfl, hql, hm0, hm1⟩ := rnum_rest HBB.out hq5 hres
      have hN := snum_ok HE13.out.spot (HG0.out _ HE13.out.grown) hc HBB.out hq5 2147483647 (by decide) (by decide) mk _ hres
      rw [hql] at hN
      rw [hres, bnd_ok] at hX
      have HN := Lib.hid hN
      have HX := Lib.hid hX
      clear hX hres HX5 hN
      go_upto_region 8 with (go_at_call 131; refine HN.out.mono ?_; rintro e w7 ⟨rfl, hk, hg⟩; have HE20 := Lib.hid (HE13.out.num hPl hk hg); have f9 := HE20.out.f 9; have c9 := HE20.out.c9; have HE21 := Lib.hid (HE20.out.put hPl 9 (.int .i64 mk) (b0 := who) (b1 := seq) (b2 := 2) (b3 := fm) (b4 := tt) (b5 := 0) (b6 := 0) (b7 := 0) (b9 := mk) (v' := .slice none 0 0) rfl); clear hk hg)
      have e0 := HE21.out.c0
      have e1 := HE21.out.c1
      have e2 := HE21.out.c2
      have e3 := HE21.out.c3
      have e4 := HE21.out.c4
      have e5 := HE21.out.c5
      have e6 := HE21.out.c6
      have e7 := HE21.out.c7
      have e8 := HE21.out.c8
      have e9 := HE21.out.c9
      obtain ⟨w8, hw8⟩ : ∃ w8, w7.setCell ⟨w.heap.size + 1, 9, none⟩ (.int .i64 mk) = w8 := ⟨_, rfl⟩
      rw [hw8] at e0 e1 e2 e3 e4 e5 e6 e7 e8 e9 HE21 ⊢
      have ff := HE21.out.f
      clear hw8 HE20 HN
      go_wp2
      have g0 := HE21.out.put hPl 0 (.int .i64 who) (b0 := who) (b1 := seq) (b2 := 2) (b3 := fm) (b4 := tt) (b5 := 0) (b6 := 0) (b7 := 0) (b9 := mk) (v' := (.slice none 0 0)) rfl
      have g1 := g0.put hPl 1 (.int .i64 seq) (b0 := who) (b1 := seq) (b2 := 2) (b3 := fm) (b4 := tt) (b5 := 0) (b6 := 0) (b7 := 0) (b9 := mk) (v' := (.slice none 0 0)) rfl
      clear g0
      have g2 := g1.put hPl 2 (.int .i64 2) (b0 := who) (b1 := seq) (b2 := 2) (b3 := fm) (b4 := tt) (b5 := 0) (b6 := 0) (b7 := 0) (b9 := mk) (v' := (.slice none 0 0)) rfl
      clear g1
      have g3 := g2.put hPl 3 (.int .i64 fm) (b0 := who) (b1 := seq) (b2 := 2) (b3 := fm) (b4 := tt) (b5 := 0) (b6 := 0) (b7 := 0) (b9 := mk) (v' := (.slice none 0 0)) rfl
      clear g2
      have g4 := g3.put hPl 4 (.int .i64 tt) (b0 := who) (b1 := seq) (b2 := 2) (b3 := fm) (b4 := tt) (b5 := 0) (b6 := 0) (b7 := 0) (b9 := mk) (v' := (.slice none 0 0)) rfl
      clear g3
      have g5 := g4.put hPl 5 (.int .i64 0) (b0 := who) (b1 := seq) (b2 := 2) (b3 := fm) (b4 := tt) (b5 := 0) (b6 := 0) (b7 := 0) (b9 := mk) (v' := (.slice none 0 0)) rfl
      clear g4
      have g6 := g5.put hPl 6 (.int .i64 0) (b0 := who) (b1 := seq) (b2 := 2) (b3 := fm) (b4 := tt) (b5 := 0) (b6 := 0) (b7 := 0) (b9 := mk) (v' := (.slice none 0 0)) rfl
      clear g5
      have g7 := g6.put hPl 7 (.int .i64 0) (b0 := who) (b1 := seq) (b2 := 2) (b3 := fm) (b4 := tt) (b5 := 0) (b6 := 0) (b7 := 0) (b9 := mk) (v' := (.slice none 0 0)) rfl
      clear g6
      have g8 := g7.put hPl 8 (.slice none 0 0) (b0 := who) (b1 := seq) (b2 := 2) (b3 := fm) (b4 := tt) (b5 := 0) (b6 := 0) (b7 := 0) (b9 := mk) (v' := (.slice none 0 0)) rfl
      clear g7
      have g9 := g8.put hPl 9 (.int .i64 mk) (b0 := who) (b1 := seq) (b2 := 2) (b3 := fm) (b4 := tt) (b5 := 0) (b6 := 0) (b7 := 0) (b9 := mk) (v' := (.slice none 0 0)) rfl
      clear g8
      have z0 := g9.c0
      have z1 := g9.c1
      have z2 := g9.c2
      have z3 := g9.c3
      have z4 := g9.c4
      have z5 := g9.c5
      have z6 := g9.c6
      have z7 := g9.c7
      have z8 := g9.c8
      have z9 := g9.c9
      refine bodyPost_ret (v := .agg #[.int .i64 who, .int .i64 seq, .int .i64 2, .int .i64 fm, .int .i64 tt, .int .i64 0, .int .i64 0, .int .i64 0, .slice none 0 0, .int .i64 mk]) (by simp [results, Try.results94, go_sem, z0, z1, z2, z3, z4, z5, z6, z7, z8, z9]) rfl ?_
      exact RdP.ok HX.out g9.grown ⟨_, rfl, Kd.R_nil _ _ _ _ _⟩ g9.spot (by rw [List.length_drop]; omega)
  · have hX := HX5.out
    rw [if_pos (by decide)] at hX
    have c2 := HE13.out.c2
    have r0 := HE13.out.ptr.c0
    rcases hres : rnum 2147483647 (b.drop q5) with f | ⟨mk, r⟩
    · rw [hres, bnd_err] at hX
      have HN := Lib.hid (snum_err HE13.out.spot (HG0.out _ HE13.out.grown) hc HBB.out hq5 2147483647 (by decide) (by decide) f hres)
      have HX := Lib.hid hX
      clear hX hres HX5
      go_wp2_with (go_at_call 131; refine HN.out.mono ?_; rintro e w7 ⟨rfl, hg⟩; have HG7 := Lib.hid (HE13.out.grown.trans hg); clear hg)
      exact ⟨rfl, RdP.err HX.out HG7.out⟩
    · obtain ⟨q9, hq9, rfl, hql, hm0, hm1⟩ := rnum_rest HBB.out hq5 hres
      have hN := snum_ok HE13.out.spot (HG0.out _ HE13.out.grown) hc HBB.out hq5 2147483647 (by decide) (by decide) mk _ hres
      rw [hql] at hN
      rw [hres, bnd_ok] at hX
      have HN := Lib.hid hN
      have HX := Lib.hid hX
      clear hX hres HX5 hN
      go_upto_region 8 with (go_at_call 131; refine HN.out.mono ?_; rintro e w7 ⟨rfl, hk, hg⟩; have HE20 := Lib.hid (HE13.out.num hPl hk hg); have f9 := HE20.out.f 9; have c9 := HE20.out.c9; have HE21 := Lib.hid (HE20.out.put hPl 9 (.int .i64 mk) (b0 := who) (b1 := seq) (b2 := 3) (b3 := fm) (b4 := tt) (b5 := 0) (b6 := 0) (b7 := 0) (b9 := mk) (v' := .slice none 0 0) rfl); clear hk hg)
      have e0 := HE21.out.c0
      have e1 := HE21.out.c1
      have e2 := HE21.out.c2
      have e3 := HE21.out.c3
      have e4 := HE21.out.c4
      have e5 := HE21.out.c5
      have e6 := HE21.out.c6
      have e7 := HE21.out.c7
      have e8 := HE21.out.c8
      have e9 := HE21.out.c9
      obtain ⟨w8, hw8⟩ : ∃ w8, w7.setCell ⟨w.heap.size + 1, 9, none⟩ (.int .i64 mk) = w8 := ⟨_, rfl⟩
      rw [hw8] at e0 e1 e2 e3 e4 e5 e6 e7 e8 e9 HE21 ⊢
      have ff := HE21.out.f
      clear hw8 HE20 HN
      go_wp2
      have g0 := HE21.out.put hPl 0 (.int .i64 who) (b0 := who) (b1 := seq) (b2 := 3) (b3 := fm) (b4 := tt) (b5 := 0) (b6 := 0) (b7 := 0) (b9 := mk) (v' := (.slice none 0 0)) rfl
      have g1 := g0.put hPl 1 (.int .i64 seq) (b0 := who) (b1 := seq) (b2 := 3) (b3 := fm) (b4 := tt) (b5 := 0) (b6 := 0) (b7 := 0) (b9 := mk) (v' := (.slice none 0 0)) rfl
      clear g0
      have g2 := g1.put hPl 2 (.int .i64 3) (b0 := who) (b1 := seq) (b2 := 3) (b3 := fm) (b4 := tt) (b5 := 0) (b6 := 0) (b7 := 0) (b9 := mk) (v' := (.slice none 0 0)) rfl
      clear g1
      have g3 := g2.put hPl 3 (.int .i64 fm) (b0 := who) (b1 := seq) (b2 := 3) (b3 := fm) (b4 := tt) (b5 := 0) (b6 := 0) (b7 := 0) (b9 := mk) (v' := (.slice none 0 0)) rfl
      clear g2
      have g4 := g3.put hPl 4 (.int .i64 tt) (b0 := who) (b1 := seq) (b2 := 3) (b3 := fm) (b4 := tt) (b5 := 0) (b6 := 0) (b7 := 0) (b9 := mk) (v' := (.slice none 0 0)) rfl
      clear g3
      have g5 := g4.put hPl 5 (.int .i64 0) (b0 := who) (b1 := seq) (b2 := 3) (b3 := fm) (b4 := tt) (b5 := 0) (b6 := 0) (b7 := 0) (b9 := mk) (v' := (.slice none 0 0)) rfl
      clear g4
      have g6 := g5.put hPl 6 (.int .i64 0) (b0 := who) (b1 := seq) (b2 := 3) (b3 := fm) (b4 := tt) (b5 := 0) (b6 := 0) (b7 := 0) (b9 := mk) (v' := (.slice none 0 0)) rfl
      clear g5
      have g7 := g6.put hPl 7 (.int .i64 0) (b0 := who) (b1 := seq) (b2 := 3) (b3 := fm) (b4 := tt) (b5 := 0) (b6 := 0) (b7 := 0) (b9 := mk) (v' := (.slice none 0 0)) rfl
      clear g6
      have g8 := g7.put hPl 8 (.slice none 0 0) (b0 := who) (b1 := seq) (b2 := 3) (b3 := fm) (b4 := tt) (b5 := 0) (b6 := 0) (b7 := 0) (b9 := mk) (v' := (.slice none 0 0)) rfl
      clear g7
      have g9 := g8.put hPl 9 (.int .i64 mk) (b0 := who) (b1 := seq) (b2 := 3) (b3 := fm) (b4 := tt) (b5 := 0) (b6 := 0) (b7 := 0) (b9 := mk) (v' := (.slice none 0 0)) rfl
      clear g8
      have z0 := g9.c0
      have z1 := g9.c1
      have z2 := g9.c2
      have z3 := g9.c3
      have z4 := g9.c4
      have z5 := g9.c5
      have z6 := g9.c6
      have z7 := g9.c7
      have z8 := g9.c8
      have z9 := g9.c9
      refine bodyPost_ret (v := .agg #[.int .i64 who, .int .i64 seq, .int .i64 3, .int .i64 fm, .int .i64 tt, .int .i64 0, .int .i64 0, .int .i64 0, .slice none 0 0, .int .i64 mk]) (by simp [results, Try.results94, go_sem, z0, z1, z2, z3, z4, z5, z6, z7, z8, z9]) rfl ?_
      exact RdP.ok HX.out g9.grown ⟨_, rfl, Kd.R_nil _ _ _ _ _⟩ g9.spot (by rw [List.length_drop]; omega)
  · have hX := HX5.out
    rw [if_neg (by decide), if_pos rfl] at hX
    have HX6 := Lib.hid hX
    clear hX HX5
    have c2 := HE13.out.c2
    go_upto_region 10 with (fail)
    clear c2
    have HE14 := Lib.hid (HE13.out.drew hPl)
    refine start_ (n := 21) (S := fun w' => w'.cell? ⟨w.heap.size, 0, none⟩ = some (.pointer (some ⟨P, 0, none⟩))) (ds := []) #[false, false, false, false, false, false, false, false, false, false, false, false, false, false, false, false, false, false, false, false, false] (by kernel_rfl) rfl rfl HE14.out.ptr.c0 (fun hHeld => ?_); refine with_tabW entR10.tab entR10.bits (fun HT_ HW_ => ?_)
    refine pure_ (i := 0) (N := (some 47)) (v := ?_) (a' := ?_) #[true, false, false, false, false, false, false, false, false, false, false, false, false, false, false, false, false, false, false, false, false] rfl rfl (any_of HT_.out (by kernel_rfl)) (fun _ _ _ h => h) (Or.inl ⟨by rfl, ?_⟩) ?_ ?_
    rotate_left
    · intro w'
      go_simp
      with_reducible rfl
    rotate_left
    · simp only [Act.put, List.setIfInBounds_toArray, List.set_cons_zero, List.set_cons_succ, i64_w, i32_w]
      rfl
    refine pure_ (i := 1) (N := (some 48)) (v := ?_) (a' := ?_) #[true, true, false, false, false, false, false, false, false, false, false, false, false, false, false, false, false, false, false, false, false] rfl rfl (any_of HT_.out (by kernel_rfl)) (fun _ _ _ h => h) (Or.inl ⟨by rfl, ?_⟩) ?_ ?_
    rotate_left
    · intro w'
      go_simp
      with_reducible rfl
    rotate_left
    · simp only [Act.put, List.setIfInBounds_toArray, List.set_cons_zero, List.set_cons_succ, i64_w, i32_w]
      rfl
    refine pure_ (i := 2) (N := (some 49)) (v := ?_) (a' := ?_) #[true, true, true, false, false, false, false, false, false, false, false, false, false, false, false, false, false, false, false, false, false] rfl rfl (any_of HT_.out (by kernel_rfl)) (fun _ _ _ h => h) (Or.inl ⟨by rfl, ?_⟩) ?_ ?_
    rotate_left
    · intro w'
      go_simp
      with_reducible rfl
    rotate_left
    · simp only [Act.put, List.setIfInBounds_toArray, List.set_cons_zero, List.set_cons_succ, i64_w, i32_w]
      rfl
    refine pure_ (i := 3) (N := (some 50)) (v := ?_) (a' := ?_) #[true, true, true, true, false, false, false, false, false, false, false, false, false, false, false, false, false, false, false, false, false] rfl rfl (any_of HT_.out (by kernel_rfl)) (fun _ _ _ h => h) (Or.inl ⟨by rfl, ?_⟩) ?_ ?_
    rotate_left
    · intro w'
      go_simp
      with_reducible rfl
    rotate_left
    · simp only [Act.put, List.setIfInBounds_toArray, List.set_cons_zero, List.set_cons_succ, i64_w, i32_w]
      rfl
    refine pure_ (i := 6) (N := (some 53)) (v := ?_) (a' := ?_) #[true, true, true, true, false, false, true, false, false, false, false, false, false, false, false, false, false, false, false, false, false] rfl rfl (any_of HT_.out (by kernel_rfl)) (fun _ _ _ h => h) (Or.inl ⟨by rfl, ?_⟩) ?_ ?_
    rotate_left
    · intro w'
      go_simp
      with_reducible rfl
    rotate_left
    · simp only [Act.put, List.setIfInBounds_toArray, List.set_cons_zero, List.set_cons_succ, i64_w, i32_w]
      rfl
    refine pure_ (i := 9) (N := (some 56)) (v := ?_) (a' := ?_) #[true, true, true, true, false, false, true, false, false, true, false, false, false, false, false, false, false, false, false, false, false] rfl rfl (any_of HT_.out (by kernel_rfl)) (fun _ _ _ h => h) (Or.inl ⟨by rfl, ?_⟩) ?_ ?_
    rotate_left
    · intro w'
      go_simp
      with_reducible rfl
    rotate_left
    · simp only [Act.put, List.setIfInBounds_toArray, List.set_cons_zero, List.set_cons_succ, i64_w, i32_w]
      rfl
    refine take_ (i := 4) (N := (some 51)) (v := ?_) (a' := ?_) #[true, true, true, true, true, false, true, false, false, true, false, false, false, false, false, false, false, false, false, false, false] rfl rfl (take_ofW HT_.out HW_.out (by kernel_rfl)) (fun _ _ _ h => h) (Or.inl ⟨by rfl, ?_⟩) hHeld ?_ ?_
    rotate_left
    · rintro w' s0
      go_simp
      with_reducible rfl
    rotate_left
    · simp only [Act.put, List.setIfInBounds_toArray, List.set_cons_zero, List.set_cons_succ, i64_w, i32_w]
      rfl
    refine take_ (i := 7) (N := (some 54)) (v := ?_) (a' := ?_) #[true, true, true, true, true, false, true, true, false, true, false, false, false, false, false, false, false, false, false, false, false] rfl rfl (take_ofW HT_.out HW_.out (by kernel_rfl)) (fun _ _ _ h => h) (Or.inl ⟨by rfl, ?_⟩) hHeld ?_ ?_
    rotate_left
    · rintro w' s0
      go_simp
      with_reducible rfl
    rotate_left
    · simp only [Act.put, List.setIfInBounds_toArray, List.set_cons_zero, List.set_cons_succ, i64_w, i32_w]
      rfl
    refine take_ (i := 10) (N := (some 57)) (v := ?_) (a' := ?_) #[true, true, true, true, true, false, true, true, false, true, true, false, false, false, false, false, false, false, false, false, false] rfl rfl (take_ofW HT_.out HW_.out (by kernel_rfl)) (fun _ _ _ h => h) (Or.inl ⟨by rfl, ?_⟩) hHeld ?_ ?_
    rotate_left
    · rintro w' s0
      go_simp
      with_reducible rfl
    rotate_left
    · simp only [Act.put, List.setIfInBounds_toArray, List.set_cons_zero, List.set_cons_succ, i64_w, i32_w]
      rfl
    refine one_ (i := 5) (N := (some 52)) #[true, true, true, true, true, true, true, true, false, true, true, false, false, false, false, false, false, false, false, false, false] rfl rfl (one_of HT_.out (by kernel_rfl)) (by decide) (fun K hK => ?_)
    have hX := HX6.out
    rcases hres : rnum 2147483647 (b.drop q5) with f | ⟨gf, r⟩
    · rw [hres, bnd_err] at hX
      refine goesP_ Try.func131 (by kernel_rfl) rfl #[.pointer (some ⟨P, 0, none⟩), .int .i64 2147483647] (by rfl) rfl rfl (by (try simp only [List.map_toArray, List.map_cons, List.map_nil]); first | done | rfl) ?_
      refine (snum_err HE14.out.spot (HG0.out _ HE14.out.grown) hc HBB.out hq5 2147483647 (by decide) (by decide) f hres).mono ?_
      rintro e w' ⟨rfl, hg⟩
      exact .inr ⟨_, rfl, And.intro rfl (RdP.err hX (HE14.out.grown.trans hg))⟩
    obtain ⟨q6, hq6, rfl, hql, hn0gf, hn1gf⟩ := rnum_rest HBB.out hq5 hres
    rw [hres, bnd_ok] at hX
    have HX7 := Lib.hid hX
    refine goesP_ Try.func131 (by kernel_rfl) rfl #[.pointer (some ⟨P, 0, none⟩), .int .i64 2147483647] (by rfl) rfl rfl (by (try simp only [List.map_toArray, List.map_cons, List.map_nil]); first | done | rfl) ?_
    refine (snum_ok HE14.out.spot (HG0.out _ HE14.out.grown) hc HBB.out hq5 2147483647 (by decide) (by decide) gf _ hres).mono ?_
    rintro e v15 ⟨rfl, hk, hg⟩
    rw [hql] at hk
    have HE15 := Lib.hid (HE14.out.num hPl hk hg)
    clear hk hg hres hX hql HX6 HE14
    refine .inl ⟨_, rfl, ?_⟩
    refine hK.out _ _ HE15.out.ptr.c0 (fun hHeld => ?_)
    clear hK K
    refine norm_ (a' := ?_) ?_ ?_
    rotate_left
    · show Act.put _ (some 52) _ = _
      simp only [Act.put, List.setIfInBounds_toArray, List.set_cons_zero, List.set_cons_succ, i64_w, i32_w]
      rfl
    refine one_ (i := 8) (N := (some 55)) #[true, true, true, true, true, true, true, true, true, true, true, false, false, false, false, false, false, false, false, false, false] rfl rfl (one_of HT_.out (by kernel_rfl)) (by decide) (fun K hK => ?_)
    have hX := HX7.out
    rcases hres : rnum 2147483647 (b.drop q6) with f | ⟨gt, r⟩
    · rw [hres, bnd_err] at hX
      refine goesP_ Try.func131 (by kernel_rfl) rfl #[.pointer (some ⟨P, 0, none⟩), .int .i64 2147483647] (by rfl) rfl rfl (by (try simp only [List.map_toArray, List.map_cons, List.map_nil]); first | done | rfl) ?_
      refine (snum_err HE15.out.spot (HG0.out _ HE15.out.grown) hc HBB.out hq6 2147483647 (by decide) (by decide) f hres).mono ?_
      rintro e w' ⟨rfl, hg⟩
      exact .inr ⟨_, rfl, And.intro rfl (RdP.err hX (HE15.out.grown.trans hg))⟩
    obtain ⟨q7, hq7, rfl, hql, hn0gt, hn1gt⟩ := rnum_rest HBB.out hq6 hres
    rw [hres, bnd_ok] at hX
    have HX8 := Lib.hid hX
    refine goesP_ Try.func131 (by kernel_rfl) rfl #[.pointer (some ⟨P, 0, none⟩), .int .i64 2147483647] (by rfl) rfl rfl (by (try simp only [List.map_toArray, List.map_cons, List.map_nil]); first | done | rfl) ?_
    refine (snum_ok HE15.out.spot (HG0.out _ HE15.out.grown) hc HBB.out hq6 2147483647 (by decide) (by decide) gt _ hres).mono ?_
    rintro e v16 ⟨rfl, hk, hg⟩
    rw [hql] at hk
    have HE16 := Lib.hid (HE15.out.num hPl hk hg)
    clear hk hg hres hX hql HX7 HE15
    refine .inl ⟨_, rfl, ?_⟩
    refine hK.out _ _ HE16.out.ptr.c0 (fun hHeld => ?_)
    clear hK K
    refine norm_ (a' := ?_) ?_ ?_
    rotate_left
    · show Act.put _ (some 55) _ = _
      simp only [Act.put, List.setIfInBounds_toArray, List.set_cons_zero, List.set_cons_succ, i64_w, i32_w]
      rfl
    refine one_ (i := 11) (N := (some 58)) #[true, true, true, true, true, true, true, true, true, true, true, true, false, false, false, false, false, false, false, false, false] rfl rfl (one_of HT_.out (by kernel_rfl)) (by decide) (fun K hK => ?_)
    have hX := HX8.out
    rcases hres : rnum 2147483647 (b.drop q7) with f | ⟨ins, r⟩
    · rw [hres, bnd_err] at hX
      refine goesP_ Try.func131 (by kernel_rfl) rfl #[.pointer (some ⟨P, 0, none⟩), .int .i64 2147483647] (by rfl) rfl rfl (by (try simp only [List.map_toArray, List.map_cons, List.map_nil]); first | done | rfl) ?_
      refine (snum_err HE16.out.spot (HG0.out _ HE16.out.grown) hc HBB.out hq7 2147483647 (by decide) (by decide) f hres).mono ?_
      rintro e w' ⟨rfl, hg⟩
      exact .inr ⟨_, rfl, And.intro rfl (RdP.err hX (HE16.out.grown.trans hg))⟩
    obtain ⟨q8, hq8, rfl, hql, hn0ins, hn1ins⟩ := rnum_rest HBB.out hq7 hres
    rw [hres, bnd_ok] at hX
    have HX9 := Lib.hid hX
    refine goesP_ Try.func131 (by kernel_rfl) rfl #[.pointer (some ⟨P, 0, none⟩), .int .i64 2147483647] (by rfl) rfl rfl (by (try simp only [List.map_toArray, List.map_cons, List.map_nil]); first | done | rfl) ?_
    refine (snum_ok HE16.out.spot (HG0.out _ HE16.out.grown) hc HBB.out hq7 2147483647 (by decide) (by decide) ins _ hres).mono ?_
    rintro e v17 ⟨rfl, hk, hg⟩
    rw [hql] at hk
    have HE17 := Lib.hid (HE16.out.num hPl hk hg)
    clear hk hg hres hX hql HX8 HE16
    refine .inl ⟨_, rfl, ?_⟩
    refine hK.out _ _ HE17.out.ptr.c0 (fun hHeld => ?_)
    clear hK K
    refine norm_ (a' := ?_) ?_ ?_
    rotate_left
    · show Act.put _ (some 58) _ = _
      simp only [Act.put, List.setIfInBounds_toArray, List.set_cons_zero, List.set_cons_succ, i64_w, i32_w]
      rfl
    refine pure_ (i := 12) (N := (some 59)) (v := ?_) (a' := ?_) #[true, true, true, true, true, true, true, true, true, true, true, true, true, false, false, false, false, false, false, false, false] rfl rfl (any_of HT_.out (by kernel_rfl)) (fun _ _ _ h => h) (Or.inl ⟨by rfl, ?_⟩) ?_ ?_
    rotate_left
    · intro w'
      go_simp
      with_reducible rfl
    rotate_left
    · simp only [Act.put, List.setIfInBounds_toArray, List.set_cons_zero, List.set_cons_succ, i64_w, i32_w]
      rfl
    refine pure_ (i := 13) (N := (some 60)) (v := ?_) (a' := ?_) #[true, true, true, true, true, true, true, true, true, true, true, true, true, true, false, false, false, false, false, false, false] rfl rfl (any_of HT_.out (by kernel_rfl)) (fun _ _ _ h => h) (Or.inl ⟨by rfl, ?_⟩) ?_ ?_
    rotate_left
    · intro w'
      go_simp
      with_reducible rfl
    rotate_left
    · simp only [Act.put, List.setIfInBounds_toArray, List.set_cons_zero, List.set_cons_succ, i64_w, i32_w]
      rfl
    refine one_ (i := 14) (N := none) #[true, true, true, true, true, true, true, true, true, true, true, true, true, true, true, false, false, false, false, false, false] rfl rfl (one_of HT_.out (by kernel_rfl)) (by decide) (fun K hK => ?_)
    have hcc := HE17.out.c5
    have hff := HE17.out.f 5
    refine skip_ (w1 := (v17.setCell ⟨w.heap.size + 1, 5, none⟩ (.int .i64 gf))) (by rfl) rfl ?_ ?_
    · go_simp
      try rfl
    have HE18 : Hid (EnS w (v17.setCell ⟨w.heap.size + 1, 5, none⟩ (.int .i64 gf)) P A c b.length q8 who seq 1 fm tt gf 0 0 (.slice none 0 0) 0) := Lib.hid (HE17.out.put hPl 5 (.int .i64 gf) rfl)
    clear hcc hff HE17
    refine hK.out _ _ HE18.out.ptr.c0 (fun hHeld => ?_)
    clear hK K
    refine pure_ (i := 15) (N := (some 61)) (v := ?_) (a' := ?_) #[true, true, true, true, true, true, true, true, true, true, true, true, true, true, true, true, false, false, false, false, false] rfl rfl (any_of HT_.out (by kernel_rfl)) (fun _ _ _ h => h) (Or.inl ⟨by rfl, ?_⟩) ?_ ?_
    rotate_left
    · intro w'
      go_simp
      with_reducible rfl
    rotate_left
    · simp only [Act.put, List.setIfInBounds_toArray, List.set_cons_zero, List.set_cons_succ, i64_w, i32_w]
      rfl
    refine pure_ (i := 16) (N := (some 62)) (v := ?_) (a' := ?_) #[true, true, true, true, true, true, true, true, true, true, true, true, true, true, true, true, true, false, false, false, false] rfl rfl (any_of HT_.out (by kernel_rfl)) (fun _ _ _ h => h) (Or.inl ⟨by rfl, ?_⟩) ?_ ?_
    rotate_left
    · intro w'
      go_simp
      with_reducible rfl
    rotate_left
    · simp only [Act.put, List.setIfInBounds_toArray, List.set_cons_zero, List.set_cons_succ, i64_w, i32_w]
      rfl
    refine one_ (i := 17) (N := none) #[true, true, true, true, true, true, true, true, true, true, true, true, true, true, true, true, true, true, false, false, false] rfl rfl (one_of HT_.out (by kernel_rfl)) (by decide) (fun K hK => ?_)
    have hcc := HE18.out.c6
    have hff := HE18.out.f 6
    refine skip_ (w1 := ((v17.setCell ⟨w.heap.size + 1, 5, none⟩ (.int .i64 gf)).setCell ⟨w.heap.size + 1, 6, none⟩ (.int .i64 gt))) (by rfl) rfl ?_ ?_
    · go_simp
      try rfl
    have HE19 : Hid (EnS w ((v17.setCell ⟨w.heap.size + 1, 5, none⟩ (.int .i64 gf)).setCell ⟨w.heap.size + 1, 6, none⟩ (.int .i64 gt)) P A c b.length q8 who seq 1 fm tt gf gt 0 (.slice none 0 0) 0) := Lib.hid (HE18.out.put hPl 6 (.int .i64 gt) rfl)
    clear hcc hff HE18
    refine hK.out _ _ HE19.out.ptr.c0 (fun hHeld => ?_)
    clear hK K
    refine pure_ (i := 18) (N := (some 63)) (v := ?_) (a' := ?_) #[true, true, true, true, true, true, true, true, true, true, true, true, true, true, true, true, true, true, true, false, false] rfl rfl (any_of HT_.out (by kernel_rfl)) (fun _ _ _ h => h) (Or.inl ⟨by rfl, ?_⟩) ?_ ?_
    rotate_left
    · intro w'
      go_simp
      with_reducible rfl
    rotate_left
    · simp only [Act.put, List.setIfInBounds_toArray, List.set_cons_zero, List.set_cons_succ, i64_w, i32_w]
      rfl
    refine pure_ (i := 19) (N := (some 64)) (v := ?_) (a' := ?_) #[true, true, true, true, true, true, true, true, true, true, true, true, true, true, true, true, true, true, true, true, false] rfl rfl (any_of HT_.out (by kernel_rfl)) (fun _ _ _ h => h) (Or.inl ⟨by rfl, ?_⟩) ?_ ?_
    rotate_left
    · intro w'
      go_simp
      with_reducible rfl
    rotate_left
    · simp only [Act.put, List.setIfInBounds_toArray, List.set_cons_zero, List.set_cons_succ, i64_w, i32_w]
      rfl
    refine one_ (i := 20) (N := none) #[true, true, true, true, true, true, true, true, true, true, true, true, true, true, true, true, true, true, true, true, true] rfl rfl (one_of HT_.out (by kernel_rfl)) (by decide) (fun K hK => ?_)
    have hcc := HE19.out.c7
    have hff := HE19.out.f 7
    refine skip_ (w1 := (((v17.setCell ⟨w.heap.size + 1, 5, none⟩ (.int .i64 gf)).setCell ⟨w.heap.size + 1, 6, none⟩ (.int .i64 gt)).setCell ⟨w.heap.size + 1, 7, none⟩ (.int .i64 ins))) (by rfl) rfl ?_ ?_
    · go_simp
      try rfl
    have HE20 : Hid (EnS w (((v17.setCell ⟨w.heap.size + 1, 5, none⟩ (.int .i64 gf)).setCell ⟨w.heap.size + 1, 6, none⟩ (.int .i64 gt)).setCell ⟨w.heap.size + 1, 7, none⟩ (.int .i64 ins)) P A c b.length q8 who seq 1 fm tt gf gt ins (.slice none 0 0) 0) := Lib.hid (HE19.out.put hPl 7 (.int .i64 ins) rfl)
    clear hcc hff HE19
    refine hK.out _ _ HE20.out.ptr.c0 (fun hHeld => ?_)
    clear hK K
    refine done_ (done_of HT_.out (by kernel_rfl)) ?_
    go_upto_region 11 with (fail)
    have hX := HX9.out
    have hd := sdoc_is HC.out hc HBB.out (below_of_grown HB0.out HE20.out.grown hP) hP HE20.out.spot hq8
    have hEs := HE20.out.size
    obtain ⟨W11, hW11⟩ : ∃ W11, (((v17.setCell ⟨w.heap.size + 1, 5, none⟩ (.int .i64 gf)).setCell ⟨w.heap.size + 1, 6, none⟩ (.int .i64 gt)).setCell ⟨w.heap.size + 1, 7, none⟩ (.int .i64 ins)) = W11 := ⟨_, rfl⟩
    rw [hW11] at hd hEs HE20 ⊢
    have r0 := HE20.out.ptr.c0
    skip
    clear hW11
    rcases hres : rdoc (b.drop q8) with f | ⟨sl, r⟩
    · rw [hres, bnd_err] at hX
      rw [hres] at hd
      have HD := Lib.hid hd
      have HX := Lib.hid hX
      clear hX hres hd HX9
      go_wp2_with (go_at_call 125; refine HD.out.mono ?_; rintro e w17 h17; obtain ⟨rfl, hg⟩ := h17.err_inv; have HG17 := Lib.hid (HE20.out.grown.trans hg); clear h17 hg)
      exact ⟨rfl, RdP.err HX.out HG17.out⟩
    · rw [hres, bnd_ok] at hX
      rw [hres] at hd
      have HD := Lib.hid hd
      have HX := Lib.hid hX
      clear hX hres hd HX9
      go_upto_region 12 with (go_at_call 125; refine HD.out.mono ?_; rintro e w17 h17; obtain ⟨u, rfl, ht, hk, hg⟩ := h17.ok_inv; obtain ⟨Au, cu, rfl, _, _⟩ := Kd.R_reads ht; have HE30 := Lib.hid (HE20.out.num hPl hk hg); have f8 := HE30.out.f 8; have c8 := HE30.out.c8; have HE31 := Lib.hid (HE30.out.put hPl 8 (.slice Au sl.length cu) (b0 := who) (b1 := seq) (b2 := 1) (b3 := fm) (b4 := tt) (b5 := gf) (b6 := gt) (b7 := ins) (b9 := 0) (v' := .slice Au sl.length cu) rfl); have HLT : Hid (w.heap.size + 1 < W11.heap.size) := Lib.hid (by omega); have HT := Lib.hid (ht.set (E := w.heap.size + 1) HLT.out 8 (.slice Au sl.length cu)); clear h17 hk hg ht)
      have e0 := HE31.out.c0
      have e1 := HE31.out.c1
      have e2 := HE31.out.c2
      have e3 := HE31.out.c3
      have e4 := HE31.out.c4
      have e5 := HE31.out.c5
      have e6 := HE31.out.c6
      have e7 := HE31.out.c7
      have e8 := HE31.out.c8
      have e9 := HE31.out.c9
      obtain ⟨w18, hw18⟩ : ∃ w18, w17.setCell ⟨w.heap.size + 1, 8, none⟩ (.slice Au sl.length cu) = w18 := ⟨_, rfl⟩
      rw [hw18] at e0 e1 e2 e3 e4 e5 e6 e7 e8 e9 HE31 HT ⊢
      have ff := HE31.out.f
      clear hw18 HE30 HD
      go_wp2
      have g0 := HE31.out.put hPl 0 (.int .i64 who) (b0 := who) (b1 := seq) (b2 := 1) (b3 := fm) (b4 := tt) (b5 := gf) (b6 := gt) (b7 := ins) (b9 := 0) (v' := (.slice Au sl.length cu)) rfl
      have g1 := g0.put hPl 1 (.int .i64 seq) (b0 := who) (b1 := seq) (b2 := 1) (b3 := fm) (b4 := tt) (b5 := gf) (b6 := gt) (b7 := ins) (b9 := 0) (v' := (.slice Au sl.length cu)) rfl
      clear g0
      have g2 := g1.put hPl 2 (.int .i64 1) (b0 := who) (b1 := seq) (b2 := 1) (b3 := fm) (b4 := tt) (b5 := gf) (b6 := gt) (b7 := ins) (b9 := 0) (v' := (.slice Au sl.length cu)) rfl
      clear g1
      have g3 := g2.put hPl 3 (.int .i64 fm) (b0 := who) (b1 := seq) (b2 := 1) (b3 := fm) (b4 := tt) (b5 := gf) (b6 := gt) (b7 := ins) (b9 := 0) (v' := (.slice Au sl.length cu)) rfl
      clear g2
      have g4 := g3.put hPl 4 (.int .i64 tt) (b0 := who) (b1 := seq) (b2 := 1) (b3 := fm) (b4 := tt) (b5 := gf) (b6 := gt) (b7 := ins) (b9 := 0) (v' := (.slice Au sl.length cu)) rfl
      clear g3
      have g5 := g4.put hPl 5 (.int .i64 gf) (b0 := who) (b1 := seq) (b2 := 1) (b3 := fm) (b4 := tt) (b5 := gf) (b6 := gt) (b7 := ins) (b9 := 0) (v' := (.slice Au sl.length cu)) rfl
      clear g4
      have g6 := g5.put hPl 6 (.int .i64 gt) (b0 := who) (b1 := seq) (b2 := 1) (b3 := fm) (b4 := tt) (b5 := gf) (b6 := gt) (b7 := ins) (b9 := 0) (v' := (.slice Au sl.length cu)) rfl
      clear g5
      have g7 := g6.put hPl 7 (.int .i64 ins) (b0 := who) (b1 := seq) (b2 := 1) (b3 := fm) (b4 := tt) (b5 := gf) (b6 := gt) (b7 := ins) (b9 := 0) (v' := (.slice Au sl.length cu)) rfl
      clear g6
      have g8 := g7.put hPl 8 (.slice Au sl.length cu) (b0 := who) (b1 := seq) (b2 := 1) (b3 := fm) (b4 := tt) (b5 := gf) (b6 := gt) (b7 := ins) (b9 := 0) (v' := (.slice Au sl.length cu)) rfl
      clear g7
      have g9 := g8.put hPl 9 (.int .i64 0) (b0 := who) (b1 := seq) (b2 := 1) (b3 := fm) (b4 := tt) (b5 := gf) (b6 := gt) (b7 := ins) (b9 := 0) (v' := (.slice Au sl.length cu)) rfl
      clear g8
      have t0 := HT.out
      replace t0 := t0.set (E := w.heap.size + 1) HLT.out 0 (.int .i64 who)
      replace t0 := t0.set (E := w.heap.size + 1) HLT.out 1 (.int .i64 seq)
      replace t0 := t0.set (E := w.heap.size + 1) HLT.out 2 (.int .i64 1)
      replace t0 := t0.set (E := w.heap.size + 1) HLT.out 3 (.int .i64 fm)
      replace t0 := t0.set (E := w.heap.size + 1) HLT.out 4 (.int .i64 tt)
      replace t0 := t0.set (E := w.heap.size + 1) HLT.out 5 (.int .i64 gf)
      replace t0 := t0.set (E := w.heap.size + 1) HLT.out 6 (.int .i64 gt)
      replace t0 := t0.set (E := w.heap.size + 1) HLT.out 7 (.int .i64 ins)
      replace t0 := t0.set (E := w.heap.size + 1) HLT.out 8 (.slice Au sl.length cu)
      replace t0 := t0.set (E := w.heap.size + 1) HLT.out 9 (.int .i64 0)
      have z0 := g9.c0
      have z1 := g9.c1
      have z2 := g9.c2
      have z3 := g9.c3
      have z4 := g9.c4
      have z5 := g9.c5
      have z6 := g9.c6
      have z7 := g9.c7
      have z8 := g9.c8
      have z9 := g9.c9
      refine bodyPost_ret (v := .agg #[.int .i64 who, .int .i64 seq, .int .i64 1, .int .i64 fm, .int .i64 tt, .int .i64 gf, .int .i64 gt, .int .i64 ins, .slice Au sl.length cu, .int .i64 0]) (by simp [results, Try.results94, go_sem, z0, z1, z2, z3, z4, z5, z6, z7, z8, z9]) rfl ?_
      exact RdP.ok HX.out g9.grown ⟨_, rfl, Kd.R_lower t0 (by have := HLT.out; omega)⟩ g9.spot rfl
  · have hX := HX5.out
    rw [if_neg (by decide), if_neg (by decide)] at hX
    have HX6 := Lib.hid hX
    clear hX HX5
    have hX := HX6.out
    have hd := sdoc_is HC.out hc HBB.out (below_of_grown HB0.out HE13.out.grown hP) hP HE13.out.spot hq5
    have hEs := HE13.out.size
    obtain ⟨W11, hW11⟩ : ∃ W11, (((v10.setCell ⟨w.heap.size + 1, 2, none⟩ (.int .i64 0)).setCell ⟨w.heap.size + 1, 3, none⟩ (.int .i64 fm)).setCell ⟨w.heap.size + 1, 4, none⟩ (.int .i64 tt)) = W11 := ⟨_, rfl⟩
    rw [hW11] at hd hEs HE13 ⊢
    have r0 := HE13.out.ptr.c0
    have c2 := HE13.out.c2
    clear hW11
    rcases hres : rdoc (b.drop q5) with f | ⟨sl, r⟩
    · rw [hres, bnd_err] at hX
      rw [hres] at hd
      have HD := Lib.hid hd
      have HX := Lib.hid hX
      clear hX hres hd HX6
      go_wp2_with (go_at_call 125; refine HD.out.mono ?_; rintro e w17 h17; obtain ⟨rfl, hg⟩ := h17.err_inv; have HG17 := Lib.hid (HE13.out.grown.trans hg); clear h17 hg)
      exact ⟨rfl, RdP.err HX.out HG17.out⟩
    · rw [hres, bnd_ok] at hX
      rw [hres] at hd
      have HD := Lib.hid hd
      have HX := Lib.hid hX
      clear hX hres hd HX6
      go_upto_region 12 with (go_at_call 125; refine HD.out.mono ?_; rintro e w17 h17; obtain ⟨u, rfl, ht, hk, hg⟩ := h17.ok_inv; obtain ⟨Au, cu, rfl, _, _⟩ := Kd.R_reads ht; have HE30 := Lib.hid (HE13.out.num hPl hk hg); have f8 := HE30.out.f 8; have c8 := HE30.out.c8; have HE31 := Lib.hid (HE30.out.put hPl 8 (.slice Au sl.length cu) (b0 := who) (b1 := seq) (b2 := 0) (b3 := fm) (b4 := tt) (b5 := 0) (b6 := 0) (b7 := 0) (b9 := 0) (v' := .slice Au sl.length cu) rfl); have HLT : Hid (w.heap.size + 1 < W11.heap.size) := Lib.hid (by omega); have HT := Lib.hid (ht.set (E := w.heap.size + 1) HLT.out 8 (.slice Au sl.length cu)); clear h17 hk hg ht)
      have e0 := HE31.out.c0
      have e1 := HE31.out.c1
      have e2 := HE31.out.c2
      have e3 := HE31.out.c3
      have e4 := HE31.out.c4
      have e5 := HE31.out.c5
      have e6 := HE31.out.c6
      have e7 := HE31.out.c7
      have e8 := HE31.out.c8
      have e9 := HE31.out.c9
      obtain ⟨w18, hw18⟩ : ∃ w18, w17.setCell ⟨w.heap.size + 1, 8, none⟩ (.slice Au sl.length cu) = w18 := ⟨_, rfl⟩
      rw [hw18] at e0 e1 e2 e3 e4 e5 e6 e7 e8 e9 HE31 HT ⊢
      have ff := HE31.out.f
      clear hw18 HE30 HD
      go_wp2
      have g0 := HE31.out.put hPl 0 (.int .i64 who) (b0 := who) (b1 := seq) (b2 := 0) (b3 := fm) (b4 := tt) (b5 := 0) (b6 := 0) (b7 := 0) (b9 := 0) (v' := (.slice Au sl.length cu)) rfl
      have g1 := g0.put hPl 1 (.int .i64 seq) (b0 := who) (b1 := seq) (b2 := 0) (b3 := fm) (b4 := tt) (b5 := 0) (b6 := 0) (b7 := 0) (b9 := 0) (v' := (.slice Au sl.length cu)) rfl
      clear g0
      have g2 := g1.put hPl 2 (.int .i64 0) (b0 := who) (b1 := seq) (b2 := 0) (b3 := fm) (b4 := tt) (b5 := 0) (b6 := 0) (b7 := 0) (b9 := 0) (v' := (.slice Au sl.length cu)) rfl
      clear g1
      have g3 := g2.put hPl 3 (.int .i64 fm) (b0 := who) (b1 := seq) (b2 := 0) (b3 := fm) (b4 := tt) (b5 := 0) (b6 := 0) (b7 := 0) (b9 := 0) (v' := (.slice Au sl.length cu)) rfl
      clear g2
      have g4 := g3.put hPl 4 (.int .i64 tt) (b0 := who) (b1 := seq) (b2 := 0) (b3 := fm) (b4 := tt) (b5 := 0) (b6 := 0) (b7 := 0) (b9 := 0) (v' := (.slice Au sl.length cu)) rfl
      clear g3
      have g5 := g4.put hPl 5 (.int .i64 0) (b0 := who) (b1 := seq) (b2 := 0) (b3 := fm) (b4 := tt) (b5 := 0) (b6 := 0) (b7 := 0) (b9 := 0) (v' := (.slice Au sl.length cu)) rfl
      clear g4
      have g6 := g5.put hPl 6 (.int .i64 0) (b0 := who) (b1 := seq) (b2 := 0) (b3 := fm) (b4 := tt) (b5 := 0) (b6 := 0) (b7 := 0) (b9 := 0) (v' := (.slice Au sl.length cu)) rfl
      clear g5
      have g7 := g6.put hPl 7 (.int .i64 0) (b0 := who) (b1 := seq) (b2 := 0) (b3 := fm) (b4 := tt) (b5 := 0) (b6 := 0) (b7 := 0) (b9 := 0) (v' := (.slice Au sl.length cu)) rfl
      clear g6
      have g8 := g7.put hPl 8 (.slice Au sl.length cu) (b0 := who) (b1 := seq) (b2 := 0) (b3 := fm) (b4 := tt) (b5 := 0) (b6 := 0) (b7 := 0) (b9 := 0) (v' := (.slice Au sl.length cu)) rfl
      clear g7
      have g9 := g8.put hPl 9 (.int .i64 0) (b0 := who) (b1 := seq) (b2 := 0) (b3 := fm) (b4 := tt) (b5 := 0) (b6 := 0) (b7 := 0) (b9 := 0) (v' := (.slice Au sl.length cu)) rfl
      clear g8
      have t0 := HT.out
      replace t0 := t0.set (E := w.heap.size + 1) HLT.out 0 (.int .i64 who)
      replace t0 := t0.set (E := w.heap.size + 1) HLT.out 1 (.int .i64 seq)
      replace t0 := t0.set (E := w.heap.size + 1) HLT.out 2 (.int .i64 0)
      replace t0 := t0.set (E := w.heap.size + 1) HLT.out 3 (.int .i64 fm)
      replace t0 := t0.set (E := w.heap.size + 1) HLT.out 4 (.int .i64 tt)
      replace t0 := t0.set (E := w.heap.size + 1) HLT.out 5 (.int .i64 0)
      replace t0 := t0.set (E := w.heap.size + 1) HLT.out 6 (.int .i64 0)
      replace t0 := t0.set (E := w.heap.size + 1) HLT.out 7 (.int .i64 0)
      replace t0 := t0.set (E := w.heap.size + 1) HLT.out 8 (.slice Au sl.length cu)
      replace t0 := t0.set (E := w.heap.size + 1) HLT.out 9 (.int .i64 0)
      have z0 := g9.c0
      have z1 := g9.c1
      have z2 := g9.c2
      have z3 := g9.c3
      have z4 := g9.c4
      have z5 := g9.c5
      have z6 := g9.c6
      have z7 := g9.c7
      have z8 := g9.c8
      have z9 := g9.c9
      refine bodyPost_ret (v := .agg #[.int .i64 who, .int .i64 seq, .int .i64 0, .int .i64 fm, .int .i64 tt, .int .i64 0, .int .i64 0, .int .i64 0, .slice Au sl.length cu, .int .i64 0]) (by simp [results, Try.results94, go_sem, z0, z1, z2, z3, z4, z5, z6, z7, z8, z9]) rfl ?_
      exact RdP.ok HX.out g9.grown ⟨_, rfl, Kd.R_lower t0 (by have := HLT.out; omega)⟩ g9.spot rfl
end Go.Proofs.Ytmbnjgnmblgjoaa.Man
end

-- Run
section
/- codec.run: what its deferred closure does, what it comes to. -/



namespace Go.Proofs.Ytmbnjgnmblgjoaa.Man
open Go.RowKit Go.Proofs.YtmbnjgnmblgjoaaW.PrintWords Go.Proofs.YtmbnjgnmblgjoaaW.PrintLast Go.Proofs.YtmbnjgnmblgjoaaW.PrintMore
set_option linter.unusedVariables false
set_option linter.unusedSimpArgs false
set_option maxRecDepth 100000

theorem assert_err (v : Value) (W : World) : (Instr.typeAssert (.iface 28 v) 20 28 true).run Try.prog W = .ok (.tuple #[v, .bool true]) W := by
  simp [Instr.typeAssert, run_underlying Try.underlying28, go_sem, Result.andThen]
set_option maxHeartbeats 4000000 in
theorem catch_err (p : Addr) (x : Value) (f : Int) (w : World) (hc : w.cell? p = some x) (hz : w.frozen? p = false) :
    CallsD Try.prog 143 #[.pointer (some p)] (.panicking (errCh f)) w fun e u' w' =>
      e = .returned (.tuple #[]) ∧ u' = .panicking [{ v := .iface 28 (.int .i64 f), recovered := true }] ∧ w' = w.setCell p (.int .i64 f) := by
  have hta := assert_err (.int .i64 f)
  refine callsD_of_wpS Try.func143 rfl fun c₀ cs hu => ?_
  apply wpS_seq
  apply wpS_region
  simp [wpOpsS, go_sem, recoverD, hu, Try.ntmps143, Exit.thenS]
  refine wpS_of_wp ?_
  go_wp2
  cases c₀
  simp_all [bodyPostS, results, Try.results143]
theorem catch_none (p : Addr) (w : World) :
    CallsD Try.prog 143 #[.pointer (some p)] .returning w fun e u' w' => e = .returned (.tuple #[]) ∧ u' = .returning ∧ w' = w := by
  refine callsD_of_wpS Try.func143 rfl fun c₀ cs hu => ?_
  apply wpS_seq
  apply wpS_region
  simp [wpOpsS, go_sem, recoverD, hu, Try.ntmps143, Exit.thenS]
  refine wpS_of_wp ?_
  go_wp2
  cases c₀
  simp_all [bodyPostS, results, Try.results143]

/-- The result's variable, as_ run lays it. -/
def ResAt (w : World) (R : Nat) (f : Int) : Prop := w.heap[R]? = some (.cells #[.int .i64 f] 28 (0, 0))
theorem ResAt.c0 {w : World} {R : Nat} {f : Int} (k : ResAt w R f) : w.cell? ⟨R, 0, none⟩ = some (.int .i64 f) := by simp [World.cell?, show w.heap[R]? = _ from k]
theorem ResAt.f {w : World} {R : Nat} {f : Int} (k : ResAt w R f) : w.frozen? ⟨R, 0, none⟩ = false := by simp [World.frozen?, show w.heap[R]? = _ from k]
theorem ResAt.put {w : World} {R : Nat} {f : Int} (k : ResAt w R f) (g : Int) : ResAt (w.setCell ⟨R, 0, none⟩ (.int .i64 g)) R g := by
  unfold ResAt World.setCell
  simp [Array.getElem?_modify, show w.heap[R]? = _ from k]
theorem ResAt.lt {w : World} {R : Nat} {f : Int} (k : ResAt w R f) : R < w.heap.size := (Array.getElem?_eq_some_iff.1 k).1
abbrev runW (w : World) (A : Option Addr) (n c : Nat) : World := (w.alloc (.cells #[.int .i64 0] 28)).alloc (.cells #[.slice A n c, .int .i64 0] 194)

set_option maxHeartbeats 8000000 in
/-- The reading panics. -/
theorem run_err (w : World) (A : Option Addr) (n c : Nat) (R T : Nat) (cr ct : Array Value) (f : Int) (J : World → Prop)
    (er : ∀ args w, (callFunc R args).run Try.prog w = .ok (.enter R args) w)
    (hread : Calls Try.prog R (#[.agg #[.pointer (some ⟨w.heap.size + 1, 0, none⟩)]] ++ cr) (runW w A n c) fun e w1 => e = .panicked (errCh f) ∧ ResAt w1 w.heap.size 0 ∧ J w1) :
    Calls Try.prog 92 #[.slice A n c, .func (.func R) #[] cr, .func (.func T) #[] ct] w fun e w' => e = .returned (.int .i64 f) ∧ ∃ w1, J w1 ∧ w' = w1.setCell ⟨w.heap.size, 0, none⟩ (.int .i64 f) := by
  have hmf : ∀ (fn : Fn) (first cap : Array Value) (w : World), (Instr.makeFunc fn first cap).run Try.prog w = .ok (.func fn first cap) w := fun _ _ _ _ => rfl
  have HR := Lib.hid hread
  clear hread
  go_enter_defers Try.func92, Try.ntmps92
  go_wp2_with (fail)
  refine HR.out.mono ?_
  rintro e w1 ⟨rfl, hres, hj⟩
  refine leaves_cons (f := 143) (args := #[.pointer (some ⟨w.heap.size, 0, none⟩)]) (by simp) (by simp [go_sem]) ?_
  refine (catch_err ⟨w.heap.size, 0, none⟩ _ f w1 hres.c0 hres.f).mono ?_
  rintro e u' w'' ⟨rfl, rfl, rfl⟩
  have hc := (hres.put f).c0
  simp [Leaves, settle, results, Try.results92, go_sem, hc]
  exact ⟨w1, hj, rfl⟩

set_option maxHeartbeats 8000000 in
/-- The reading ends ahead of the bytes' end. -/
theorem run_left (w : World) (A : Option Addr) (n c q : Nat) (R T : Nat) (cr ct : Array Value) (J : World → Prop) (hq : q < n)
    (er : ∀ args w, (callFunc R args).run Try.prog w = .ok (.enter R args) w)
    (hread : Calls Try.prog R (#[.agg #[.pointer (some ⟨w.heap.size + 1, 0, none⟩)]] ++ cr) (runW w A n c) fun e w1 => e = .returned (.tuple #[]) ∧ ResAt w1 w.heap.size 0 ∧ SpotAt w1 (w.heap.size + 1) A c n q ∧ J w1) :
    Calls Try.prog 92 #[.slice A n c, .func (.func R) #[] cr, .func (.func T) #[] ct] w fun e w' => e = .returned (.int .i64 4) ∧ ∃ w1, J w1 ∧ w' = w1.setCell ⟨w.heap.size, 0, none⟩ (.int .i64 4) := by
  have hmf : ∀ (fn : Fn) (first cap : Array Value) (w : World), (Instr.makeFunc fn first cap).run Try.prog w = .ok (.func fn first cap) w := fun _ _ _ _ => rfl
  have HR := Lib.hid hread
  clear hread
  have hlt : decide (q < n) = true := decide_eq_true hq
  have hlt2 : decide ((q : Int) < (n : Int)) = true := decide_eq_true (by omega)
  go_enter_defers Try.func92, Try.ntmps92
  go_wp2_with (fail)
  refine HR.out.mono ?_
  rintro e w1 ⟨rfl, hres, hs, hj⟩
  have d1 := hs.c1
  have HS := Lib.hid hs
  have HRS := Lib.hid hres
  clear hs hres
  go_wp2_with (go_at_call 144; refine (fail_yes _ _).mono ?_; rintro e w' ⟨rfl, rfl⟩)
  refine leaves_cons (f := 143) (args := #[.pointer (some ⟨w.heap.size, 0, none⟩)]) (by simp) (by simp [go_sem]) ?_
  refine (catch_err ⟨w.heap.size, 0, none⟩ _ 4 w1 HRS.out.c0 HRS.out.f).mono ?_
  rintro e u' w'' ⟨rfl, rfl, rfl⟩
  have hc := (HRS.out.put 4).c0
  simp [Leaves, settle, results, Try.results92, go_sem, hc]
  exact ⟨w1, hj, rfl⟩

set_option maxHeartbeats 8000000 in
/-- All bytes are read; what was read may not be. -/
theorem run_bad (w : World) (A : Option Addr) (n c : Nat) (R T : Nat) (cr ct : Array Value) (J : World → Prop) (er' : Int) (hne : er' ≠ 0)
    (er : ∀ args w, (callFunc R args).run Try.prog w = .ok (.enter R args) w) (et : ∀ args w, (callFunc T args).run Try.prog w = .ok (.enter T args) w)
    (hread : Calls Try.prog R (#[.agg #[.pointer (some ⟨w.heap.size + 1, 0, none⟩)]] ++ cr) (runW w A n c) fun e w1 => e = .returned (.tuple #[]) ∧ ResAt w1 w.heap.size 0 ∧ SpotAt w1 (w.heap.size + 1) A c n n ∧ J w1)
    (hright : ∀ w1, J w1 → Calls Try.prog T ct w1 fun e w2 => e = .returned (.int .i64 er') ∧ Below w1.heap.size w1 w2) :
    Calls Try.prog 92 #[.slice A n c, .func (.func R) #[] cr, .func (.func T) #[] ct] w fun e w' => e = .returned (.int .i64 4) ∧ ∃ w1 w2, J w1 ∧ Below w1.heap.size w1 w2 ∧ w' = w2.setCell ⟨w.heap.size, 0, none⟩ (.int .i64 4) := by
  have hmf : ∀ (fn : Fn) (first cap : Array Value) (w : World), (Instr.makeFunc fn first cap).run Try.prog w = .ok (.func fn first cap) w := fun _ _ _ _ => rfl
  have HR := Lib.hid hread
  have HT := Lib.hid hright
  clear hread hright
  have hneb : (er' != 0) = true := by simpa using hne
  go_enter_defers Try.func92, Try.ntmps92
  go_wp2_with (fail)
  refine HR.out.mono ?_
  rintro e w1 ⟨rfl, hres, hs, hj⟩
  have d1 := hs.c1
  have HS := Lib.hid hs
  have HRS := Lib.hid hres
  clear hs hres
  go_wp2_with (fail)
  refine (HT.out w1 hj).mono ?_
  rintro e w2 ⟨rfl, hb⟩
  have HS2 := Lib.hid (HS.out.below hb HS.out.lt)
  have hr2 : ResAt w2 w.heap.size 0 := (hb.block _ HRS.out.lt).trans HRS.out
  have HR2 := Lib.hid hr2
  have HBB := Lib.hid hb
  clear hr2 hb
  go_wp2_with (go_at_call 144; refine (fail_yes _ _).mono ?_; rintro e w' ⟨rfl, rfl⟩)
  refine leaves_cons (f := 143) (args := #[.pointer (some ⟨w.heap.size, 0, none⟩)]) (by simp) (by simp [go_sem]) ?_
  refine (catch_err ⟨w.heap.size, 0, none⟩ _ 4 w2 HR2.out.c0 HR2.out.f).mono ?_
  rintro e u' w'' ⟨rfl, rfl, rfl⟩
  have hc := (HR2.out.put 4).c0
  simp [Leaves, settle, results, Try.results92, go_sem, hc]
  exact ⟨w1, hj, w2, HBB.out, rfl⟩

set_option maxHeartbeats 8000000 in
/-- All bytes are read; what was read may be. -/
theorem run_good (w : World) (A : Option Addr) (n c : Nat) (R T : Nat) (cr ct : Array Value) (J : World → Prop)
    (er : ∀ args w, (callFunc R args).run Try.prog w = .ok (.enter R args) w) (et : ∀ args w, (callFunc T args).run Try.prog w = .ok (.enter T args) w)
    (hread : Calls Try.prog R (#[.agg #[.pointer (some ⟨w.heap.size + 1, 0, none⟩)]] ++ cr) (runW w A n c) fun e w1 => e = .returned (.tuple #[]) ∧ ResAt w1 w.heap.size 0 ∧ SpotAt w1 (w.heap.size + 1) A c n n ∧ J w1)
    (hright : ∀ w1, J w1 → Calls Try.prog T ct w1 fun e w2 => e = .returned (.int .i64 0) ∧ Below w1.heap.size w1 w2) :
    Calls Try.prog 92 #[.slice A n c, .func (.func R) #[] cr, .func (.func T) #[] ct] w fun e w' => e = .returned (.int .i64 0) ∧ ∃ w1 w2, J w1 ∧ Below w1.heap.size w1 w2 ∧ w' = w2.setCell ⟨w.heap.size, 0, none⟩ (.int .i64 0) := by
  have hmf : ∀ (fn : Fn) (first cap : Array Value) (w : World), (Instr.makeFunc fn first cap).run Try.prog w = .ok (.func fn first cap) w := fun _ _ _ _ => rfl
  have HR := Lib.hid hread
  have HT := Lib.hid hright
  clear hread hright
  go_enter_defers Try.func92, Try.ntmps92
  go_wp2_with (fail)
  refine HR.out.mono ?_
  rintro e w1 ⟨rfl, hres, hs, hj⟩
  have d1 := hs.c1
  have HS := Lib.hid hs
  have HRS := Lib.hid hres
  clear hs hres
  go_wp2_with (fail)
  refine (HT.out w1 hj).mono ?_
  rintro e w2 ⟨rfl, hb⟩
  have HS2 := Lib.hid (HS.out.below hb HS.out.lt)
  have hr2 : ResAt w2 w.heap.size 0 := (hb.block _ HRS.out.lt).trans HRS.out
  have HR2 := Lib.hid hr2
  have HBB := Lib.hid hb
  have g0 := hr2.c0
  have gf := hr2.f
  clear hr2 hb
  go_wp2_with (go_at_call 144; refine (fail_no _ _).mono ?_; rintro e w' ⟨rfl, rfl⟩)
  refine leaves_cons (f := 143) (args := #[.pointer (some ⟨w.heap.size, 0, none⟩)]) (by simp) (by simp [go_sem]) ?_
  refine (catch_none ⟨w.heap.size, 0, none⟩ _).mono ?_
  rintro e u' w'' ⟨rfl, rfl, rfl⟩
  have hc := (HR2.out.put 0).c0
  simp [Leaves, settle, results, Try.results92, go_sem, hc]
  exact ⟨w1, hj, w2, HBB.out, rfl⟩
end Go.Proofs.Ytmbnjgnmblgjoaa.Man
end

-- Gets
section
/- codec.GetDoc, GetEntry of the given program: what they come to, for all bytes. -/

namespace Go.Proofs.Ytmbnjgnmblgjoaa.Man
open Go.RowKit Go.Proofs.YtmbnjgnmblgjoaaW.PrintWords Go.Proofs.YtmbnjgnmblgjoaaW.PrintLast Go.Proofs.YtmbnjgnmblgjoaaW.PrintMore
set_option linter.unusedVariables false
set_option linter.unusedSimpArgs false
set_option maxRecDepth 100000

/-- A variable that a closure holds. -/
def RowAt (w : World) (V : Nat) (v : Value) : Prop := w.heap[V]? = some (.cells #[v] 22 (0, 0))
theorem RowAt.c0 {w : World} {V : Nat} {v : Value} (k : RowAt w V v) : w.cell? ⟨V, 0, none⟩ = some v := by simp [World.cell?, show w.heap[V]? = _ from k]
theorem RowAt.f {w : World} {V : Nat} {v : Value} (k : RowAt w V v) : w.frozen? ⟨V, 0, none⟩ = false := by simp [World.frozen?, show w.heap[V]? = _ from k]
theorem RowAt.lt {w : World} {V : Nat} {v : Value} (k : RowAt w V v) : V < w.heap.size := (Array.getElem?_eq_some_iff.1 k).1
theorem RowAt.put {w : World} {V : Nat} {v : Value} (k : RowAt w V v) (u : Value) : RowAt (w.setCell ⟨V, 0, none⟩ u) V u := by
  unfold RowAt World.setCell
  simp [Array.getElem?_modify, show w.heap[V]? = _ from k]
theorem heap_set_ne (w : World) (B k j : Nat) (u : Value) (h : j ≠ B) : (w.setCell ⟨B, k, none⟩ u).heap[j]? = w.heap[j]? := Below.heap_setCell w ⟨B, k, none⟩ u j h
theorem TR.C {w : World} {base : Nat} {v : Value} {xs : List K.S111} (h : TR w base v xs) : ∃ A c, v = .slice A xs.length c ∧ xs.length ≤ c ∧ Kd.C K.k111 w A xs.length xs := Kd.R_reads h

set_option maxHeartbeats 8000000 in
theorem getDoc1_err {w0 w : World} {P V c p : Nat} {A : Option Addr} {b : List Int} (hC : Kd.C (Kd.int .u8) w0 A b.length b) (hc : b.length ≤ c) (hB : areBytesN b = true) (hb : Below w0.heap.size w0 w) (hP : w0.heap.size ≤ P) (k : SpotAt w P A c b.length p) (hp : p ≤ b.length) (f : Int) (hres : rdoc (b.drop p) = .error f) :
    Calls Try.prog 124 (#[.agg #[.pointer (some ⟨P, 0, none⟩)]] ++ #[.pointer (some ⟨V, 0, none⟩)]) w fun e w' => e = .panicked (errCh f) ∧ w.grownBy w' (some P) := by
  have hPl := k.lt
  have hbx : Below w.heap.size w (w.alloc (.cells #[.pointer (some ⟨P, 0, none⟩)] 140)) := (Below.refl _ _).alloc (Nat.le_refl _) _
  have hd := sdoc_is hC hc hB (hb.trans (hbx.mono hb.size)) hP (k.below hbx hPl) hp
  rw [hres] at hd
  have HD := Lib.hid hd
  have HX := Lib.hid (grown_of_below hbx (some P))
  clear hC hB hb k hd hres hbx
  show Calls _ _ #[.agg #[.pointer (some ⟨P, 0, none⟩)], .pointer (some ⟨V, 0, none⟩)] _ _
  go_enter Try.func124, Try.ntmps124
  go_wp2_with (go_at_call 125; refine HD.out.mono ?_; rintro e w1 h1; obtain ⟨rfl, hg⟩ := h1.err_inv; have HG := Lib.hid (HX.out.trans hg); clear h1 hg)
  exact ⟨rfl, rfl, HG.out⟩

set_option maxHeartbeats 8000000 in
theorem getDoc1_ok {w0 w : World} {P V c p : Nat} {A : Option Addr} {b : List Int} (hC : Kd.C (Kd.int .u8) w0 A b.length b) (hc : b.length ≤ c) (hB : areBytesN b = true) (hb : Below w0.heap.size w0 w) (hP : w0.heap.size ≤ P) (k : SpotAt w P A c b.length p) (hp : p ≤ b.length) (xs : List K.S111) (r : List Int) (hres : rdoc (b.drop p) = .ok (xs, r))
    {u : Value} (kv : RowAt w V u) (hVP : V ≠ P) :
    Calls Try.prog 124 (#[.agg #[.pointer (some ⟨P, 0, none⟩)]] ++ #[.pointer (some ⟨V, 0, none⟩)]) w fun e w' => e = .returned (.tuple #[]) ∧ ∃ v w2, w' = w2.setCell ⟨V, 0, none⟩ v ∧ TR w2 w.heap.size v xs ∧ SpotAt w2 P A c b.length (b.length - r.length) ∧ w.grownBy w2 (some P) := by
  have hPl := k.lt
  have hbx : Below w.heap.size w (w.alloc (.cells #[.pointer (some ⟨P, 0, none⟩)] 140)) := (Below.refl _ _).alloc (Nat.le_refl _) _
  have hd := sdoc_is hC hc hB (hb.trans (hbx.mono hb.size)) hP (k.below hbx hPl) hp
  rw [hres] at hd
  have HD := Lib.hid hd
  have HX := Lib.hid (grown_of_below hbx (some P))
  have HZ := Lib.hid hbx.size
  have HV := Lib.hid kv
  clear hC hB hb k hd hres hbx kv
  show Calls _ _ #[.agg #[.pointer (some ⟨P, 0, none⟩)], .pointer (some ⟨V, 0, none⟩)] _ _
  go_enter Try.func124, Try.ntmps124
  go_wp2_with (go_at_call 125; refine HD.out.mono ?_; rintro e w1 h1; obtain ⟨v, rfl, ht, hk, hg⟩ := h1.ok_inv; obtain ⟨A1, k1, rfl, _, _⟩ := ht.C; have HT := Lib.hid (Kd.R_lower ht HZ.out); have HK := Lib.hid hk; have HG := Lib.hid (HX.out.trans hg); have hv1 : RowAt w1 V u := (HG.out.block _ HV.out.lt (by intro e; exact hVP (Option.some.inj e))).trans HV.out; have v0 := hv1.c0; have vf := hv1.f; clear h1 ht hk hg hv1)
  go_end0
  exact ⟨rfl, _, w1, rfl, HT.out, HK.out, HG.out⟩

set_option maxHeartbeats 8000000 in
theorem getDoc2_is {w : World} {V base : Nat} {v : Value} {xs : List K.S111} (kv : RowAt w V v) (ht : TR w base v xs) :
    Calls Try.prog 126 #[.pointer (some ⟨V, 0, none⟩)] w fun e w' => e = .returned (.int .i64 (docE xs)) ∧ Below w.heap.size w w' := by
  obtain ⟨A1, k1, rfl, hk1, hC⟩ := ht.C
  have HD := Lib.hid (doc_is A1 k1 xs w hC hk1)
  have v0 := kv.c0
  clear kv ht hC
  go_enter Try.func126, Try.ntmps126
  go_wp2_with (go_at_call 103; refine HD.out.mono ?_; rintro e w1 ⟨rfl, hb⟩; have HB := Lib.hid hb; clear hb)
  go_ret
  exact ⟨rfl, HB.out⟩

theorem spot0 (w : World) (A : Option Addr) (n c : Nat) : SpotAt (runW w A n c) (w.heap.size + 1) A c n 0 := by
  have := World.alloc_heap_new (w.alloc (.cells #[.int .i64 0] 28)) (.cells #[.slice A n c, .int .i64 0] 194)
  rwa [World.size_alloc] at this
theorem res0 (w : World) (A : Option Addr) (n c : Nat) : ResAt (runW w A n c) w.heap.size 0 := (Below.heap_alloc _ _ _ (by simp)).trans (World.alloc_heap_new w _)
theorem runW_below (w : World) (A : Option Addr) (n c : Nat) : Below w.heap.size w (runW w A n c) := ((Below.refl _ _).alloc (Nat.le_refl _) _).alloc (by simp) _
theorem runW_size (w : World) (A : Option Addr) (n c : Nat) : (runW w A n c).heap.size = w.heap.size + 2 := by unfold runW; rw [World.size_alloc, World.size_alloc]
theorem enters_fn {f : Nat} {fn : Func} (hf : Try.prog.funcs[f]? = some fn) (hname : (fn.name == "runtime.NumGoroutine") = false) (hb : fn.body.isSome = true) : ∀ args w, (callFunc f args).run Try.prog w = .ok (.enter f args) w := fun args w => enters_ hf hname hb args w
/-- A world that keeps what is old, but some blocks that are young. -/
theorem below_set_young {w w1 : World} (hb : Below w.heap.size w w1) (B k : Nat) (u : Value) (hB : w.heap.size ≤ B) : Below w.heap.size w (w1.setCell ⟨B, k, none⟩ u) := hb.setCell (p := ⟨B, k, none⟩) hB u

set_option maxHeartbeats 16000000 in
theorem getDoc_is (w : World) (A : Option Addr) (c : Nat) (b : List Int) (hC : Kd.C (Kd.int .u8) w A b.length b) (hc : b.length ≤ c) (hB : areBytesN b = true) :
    Calls Try.prog 63 #[.slice A b.length c] w fun e w' => ∃ v, e = .returned (.tuple #[v, .int .i64 (getDocF b).2]) ∧ TR w' w.heap.size v (getDocF b).1 ∧ Below w.heap.size w w' := by
  have hmf : ∀ (fn : Fn) (first cap : Array Value) (w : World), (Instr.makeFunc fn first cap).run Try.prog w = .ok (.func fn first cap) w := fun _ _ _ _ => rfl
  obtain ⟨wV, hwV⟩ : ∃ wV, wV = w.alloc (.cells #[.slice none 0 0] 22) := ⟨_, rfl⟩
  have hbV : Below w.heap.size w wV := by rw [hwV]; exact (Below.refl _ _).alloc (Nat.le_refl _) _
  have hzV : wV.heap.size = w.heap.size + 1 := by rw [hwV]; exact World.size_alloc _ _
  have hV : RowAt wV w.heap.size (.slice none 0 0) := by rw [hwV]; exact World.alloc_heap_new w _
  have hbr := runW_below wV A b.length c
  have hbR : Below w.heap.size w (runW wV A b.length c) := hbV.trans (hbr.mono hbV.size)
  have hVr : RowAt (runW wV A b.length c) w.heap.size (.slice none 0 0) := (hbr.block _ hV.lt).trans hV
  have hs := spot0 wV A b.length c
  have hrz := runW_size wV A b.length c
  have e1 := enters_fn Try.func124 (by kernel_rfl) rfl
  have e2 := enters_fn Try.func126 (by kernel_rfl) rfl
  have hR0 : ∀ {w1 : World} {q : Option Nat}, (runW wV A b.length c).grownBy w1 (some (wV.heap.size + 1)) → ResAt w1 wV.heap.size 0 := fun hg => (hg.block _ (by rw [hrz]; omega) (by intro e; have := Option.some.inj e; omega)).trans (res0 wV A b.length c)
  have hbG : ∀ {w1 : World}, (runW wV A b.length c).grownBy w1 (some (wV.heap.size + 1)) → Below w.heap.size w w1 := fun hg => below_of_grown hbR hg (by omega)
  unfold getDocF
  rcases hres : rdoc b with f | ⟨xs, r⟩
  · have hd := getDoc1_err (V := w.heap.size) hC hc hB hbR (by omega) hs (Nat.zero_le _) f (by rw [List.drop_zero]; exact hres)
    have hrun := run_err wV A b.length c 124 126 #[.pointer (some ⟨w.heap.size, 0, none⟩)] #[.pointer (some ⟨w.heap.size, 0, none⟩)] f (fun w1 => Below w.heap.size w w1) e1
      (hd.mono fun e w1 ⟨h1, h2⟩ => ⟨h1, hR0 (q := none) h2, hbG h2⟩)
    have hne := ErrNz.doc b f hres
    have hneb : (f != 0) = true := by simpa using hne
    rw [hzV, hwV] at hrun
    have HR := Lib.hid hrun
    have HZ : Hid (w.heap.size ≤ w.heap.size + 1) := Lib.hid (Nat.le_succ _)
    clear hC hB hwV hbV hzV hV hbr hbR hVr hs hrz e1 e2 hR0 hbG hres hd hrun hne
    unfold allF
    simp only
    go_enter Try.func63, Try.ntmps63
    go_wp2_with (go_at_call 92; refine HR.out.mono ?_; rintro e w1 ⟨rfl, w2, hj, rfl⟩; have HJ := Lib.hid (below_set_young hj _ 0 (.int .i64 f) HZ.out); clear hj)
    go_ret2
    exact ⟨_, rfl, Kd.R_nil _ _ _ _ _, HJ.out⟩
  · have hd := getDoc1_ok hC hc hB hbR (by omega) hs (Nat.zero_le _) xs r (by rw [List.drop_zero]; exact hres) hVr (by omega)
    obtain ⟨hbr1, _, _, _⟩ := rdoc_inv hB hres
    have hrl : r.length ≤ b.length := by rw [hbr1, List.length_append]; omega
    have hread : Calls Try.prog 124 (#[.agg #[.pointer (some ⟨wV.heap.size + 1, 0, none⟩)]] ++ #[.pointer (some ⟨w.heap.size, 0, none⟩)]) (runW wV A b.length c) fun e w1 => e = .returned (.tuple #[]) ∧ ResAt w1 wV.heap.size 0 ∧ SpotAt w1 (wV.heap.size + 1) A c b.length (b.length - r.length) ∧ (∃ v, RowAt w1 w.heap.size v ∧ TR w1 (w.heap.size + 3) v xs ∧ Below w.heap.size w w1) := by
      refine hd.mono ?_
      rintro e w1 ⟨rfl, v, w2, rfl, ht, hk, hg⟩
      have hv2 : RowAt w2 w.heap.size (.slice none 0 0) := (hg.block _ (by rw [hrz]; omega) (by intro e; have := Option.some.inj e; omega)).trans hVr
      refine ⟨rfl, (heap_set_ne w2 _ 0 _ v (by omega)).trans (hR0 (q := none) hg), (heap_set_ne w2 _ 0 _ v (by omega)).trans hk, v, hv2.put v, Kd.R_lower (ht.set (by rw [hrz]; omega) 0 v) (by rw [hrz]; omega), below_set_young (hbG hg) _ 0 v (Nat.le_refl _)⟩
    have hright : ∀ w1, (∃ v, RowAt w1 w.heap.size v ∧ TR w1 (w.heap.size + 3) v xs ∧ Below w.heap.size w w1) → Calls Try.prog 126 #[.pointer (some ⟨w.heap.size, 0, none⟩)] w1 fun e w2 => e = .returned (.int .i64 (docE xs)) ∧ Below w1.heap.size w1 w2 := by
      rintro w1 ⟨v, kv, ht, _⟩
      exact getDoc2_is kv ht
    unfold allF
    simp only
    by_cases hr : 0 < r.length
    · rw [if_pos (.inl hr)]
      have hrun := run_left wV A b.length c (b.length - r.length) 124 126 #[.pointer (some ⟨w.heap.size, 0, none⟩)] #[.pointer (some ⟨w.heap.size, 0, none⟩)] _ (by omega) e1 hread
      rw [hzV, hwV] at hrun
      have HR := Lib.hid hrun
      have HZ : Hid (w.heap.size ≤ w.heap.size + 1) := Lib.hid (Nat.le_succ _)
      clear hC hB hwV hbV hzV hV hbr hbR hVr hs hrz e1 e2 hR0 hbG hres hd hrun hread hright hbr1
      go_enter Try.func63, Try.ntmps63
      go_wp2_with (go_at_call 92; refine HR.out.mono ?_; rintro e w1 ⟨rfl, w2, ⟨v, hv, ht, hj⟩, rfl⟩; have HJ := Lib.hid (below_set_young hj (w.heap.size + 1) 0 (.int .i64 4) HZ.out); clear hv ht hj)
      go_ret2
      exact ⟨_, rfl, Kd.R_nil _ _ _ _ _, HJ.out⟩
    · have hr0 : b.length - r.length = b.length := by omega
      rw [hr0] at hread
      by_cases h0 : docE xs = 0
      · rw [if_neg (by omega)]
        rw [h0] at hright
        have hrun := run_good wV A b.length c 124 126 #[.pointer (some ⟨w.heap.size, 0, none⟩)] #[.pointer (some ⟨w.heap.size, 0, none⟩)] _ e1 e2 hread hright
        rw [hzV, hwV] at hrun
        have HR := Lib.hid hrun
        have HZ : Hid (w.heap.size ≤ w.heap.size + 1) := Lib.hid (Nat.le_succ _)
        clear hC hB hwV hbV hzV hV hbr hbR hVr hs hrz e1 e2 hR0 hbG hres hd hrun hread hright hbr1 hr hr0 h0
        go_enter Try.func63, Try.ntmps63
        go_wp2_with (go_at_call 92; refine HR.out.mono ?_; rintro e w1 ⟨rfl, w2, w3, ⟨v, hv, ht, hj⟩, hb3, rfl⟩; obtain ⟨A1, k1, rfl, _, _⟩ := ht.C; have HJ := Lib.hid (below_set_young (hj.trans (hb3.mono hj.size)) (w.heap.size + 1) 0 (.int .i64 0) HZ.out); have hv3 : RowAt (w3.setCell ⟨w.heap.size + 1, 0, none⟩ (.int .i64 0)) w.heap.size (.slice A1 xs.length k1) := (heap_set_ne w3 _ 0 _ _ (by omega)).trans ((hb3.block _ hv.lt).trans hv); have v0 := hv3.c0; have HT : Hid (TR (w3.setCell ⟨w.heap.size + 1, 0, none⟩ (.int .i64 0)) w.heap.size (.slice A1 xs.length k1) xs) := Lib.hid (Kd.R_lower (TR.set (Kd.R_below ht hb3) (E := w.heap.size + 1) (by omega) 0 _) (by omega)); clear hv ht hj hb3 hv3)
        go_ret2
        exact ⟨_, rfl, HT.out, HJ.out⟩
      · rw [if_pos (.inr h0)]
        have hrun := run_bad wV A b.length c 124 126 #[.pointer (some ⟨w.heap.size, 0, none⟩)] #[.pointer (some ⟨w.heap.size, 0, none⟩)] _ (docE xs) h0 e1 e2 hread hright
        rw [hzV, hwV] at hrun
        have HR := Lib.hid hrun
        have HZ : Hid (w.heap.size ≤ w.heap.size + 1) := Lib.hid (Nat.le_succ _)
        clear hC hB hwV hbV hzV hV hbr hbR hVr hs hrz e1 e2 hR0 hbG hres hd hrun hread hright hbr1 hr hr0 h0
        go_enter Try.func63, Try.ntmps63
        go_wp2_with (go_at_call 92; refine HR.out.mono ?_; rintro e w1 ⟨rfl, w2, w3, ⟨v, hv, ht, hj⟩, hb3, rfl⟩; have HJ := Lib.hid (below_set_young (hj.trans (hb3.mono hj.size)) (w.heap.size + 1) 0 (.int .i64 4) HZ.out); clear hv ht hj hb3)
        go_ret2
        exact ⟨_, rfl, Kd.R_nil _ _ _ _ _, HJ.out⟩

/-! ### An entry -/
section
variable {w : World} {E : Nat} {a0 a1 a2 a3 a4 a5 a6 a7 a9 : Int} {v : Value}
theorem EntC.lt (h : EntC w E a0 a1 a2 a3 a4 a5 a6 a7 v a9) : E < w.heap.size := (Array.getElem?_eq_some_iff.1 h).1
theorem EntC.f (h : EntC w E a0 a1 a2 a3 a4 a5 a6 a7 v a9) (i : Nat) : w.frozen? ⟨E, i, none⟩ = false := by simp [World.frozen?, show w.heap[E]? = _ from h]
theorem EntC.put (h : EntC w E a0 a1 a2 a3 a4 a5 a6 a7 v a9) (i : Nat) (u : Value) {b0 b1 b2 b3 b4 b5 b6 b7 b9 : Int} {v' : Value}
    (he : (#[.int .i64 a0, .int .i64 a1, .int .i64 a2, .int .i64 a3, .int .i64 a4, .int .i64 a5, .int .i64 a6, .int .i64 a7, v, .int .i64 a9] : Array Value).setIfInBounds i u = #[.int .i64 b0, .int .i64 b1, .int .i64 b2, .int .i64 b3, .int .i64 b4, .int .i64 b5, .int .i64 b6, .int .i64 b7, v', .int .i64 b9]) :
    EntC (w.setCell ⟨E, i, none⟩ u) E b0 b1 b2 b3 b4 b5 b6 b7 v' b9 := by
  unfold EntC World.setCell
  unfold EntC at h
  have he2 := congrArg Array.toList he
  simp [Array.getElem?_modify, h]
  simpa using he2
theorem EntC.cells (h : EntC w E a0 a1 a2 a3 a4 a5 a6 a7 v a9) : w.cell? ⟨E, 0, none⟩ = some (.int .i64 a0) ∧ w.cell? ⟨E, 1, none⟩ = some (.int .i64 a1) ∧ w.cell? ⟨E, 2, none⟩ = some (.int .i64 a2) ∧ w.cell? ⟨E, 3, none⟩ = some (.int .i64 a3) ∧ w.cell? ⟨E, 4, none⟩ = some (.int .i64 a4) ∧
    w.cell? ⟨E, 5, none⟩ = some (.int .i64 a5) ∧ w.cell? ⟨E, 6, none⟩ = some (.int .i64 a6) ∧ w.cell? ⟨E, 7, none⟩ = some (.int .i64 a7) ∧ w.cell? ⟨E, 8, none⟩ = some v ∧ w.cell? ⟨E, 9, none⟩ = some (.int .i64 a9) := by
  simp [World.cell?, show w.heap[E]? = _ from h]
end
/-- An entry stored whole. -/
def setEnt (w : World) (E : Nat) (b0 b1 b2 b3 b4 b5 b6 b7 : Int) (u : Value) (b9 : Int) : World :=
  (((((((((w.setCell ⟨E, 0, none⟩ (.int .i64 b0)).setCell ⟨E, 1, none⟩ (.int .i64 b1)).setCell ⟨E, 2, none⟩ (.int .i64 b2)).setCell ⟨E, 3, none⟩ (.int .i64 b3)).setCell ⟨E, 4, none⟩ (.int .i64 b4)).setCell ⟨E, 5, none⟩ (.int .i64 b5)).setCell ⟨E, 6, none⟩ (.int .i64 b6)).setCell ⟨E, 7, none⟩ (.int .i64 b7)).setCell ⟨E, 8, none⟩ u).setCell ⟨E, 9, none⟩ (.int .i64 b9)
theorem EntC.set {w : World} {E : Nat} {a0 a1 a2 a3 a4 a5 a6 a7 a9 : Int} {v : Value} (h : EntC w E a0 a1 a2 a3 a4 a5 a6 a7 v a9) (b0 b1 b2 b3 b4 b5 b6 b7 : Int) (u : Value) (b9 : Int) : EntC (setEnt w E b0 b1 b2 b3 b4 b5 b6 b7 u b9) E b0 b1 b2 b3 b4 b5 b6 b7 u b9 :=
  (((((((((h.put 0 (.int .i64 b0) rfl).put 1 (.int .i64 b1) rfl).put 2 (.int .i64 b2) rfl).put 3 (.int .i64 b3) rfl).put 4 (.int .i64 b4) rfl).put 5 (.int .i64 b5) rfl).put 6 (.int .i64 b6) rfl).put 7 (.int .i64 b7) rfl).put 8 u rfl).put 9 (.int .i64 b9) rfl
theorem setEnt_ne (w : World) (E j : Nat) (b0 b1 b2 b3 b4 b5 b6 b7 : Int) (u : Value) (b9 : Int) (h : j ≠ E) : (setEnt w E b0 b1 b2 b3 b4 b5 b6 b7 u b9).heap[j]? = w.heap[j]? := by
  unfold setEnt
  rw [heap_set_ne _ _ _ _ _ h, heap_set_ne _ _ _ _ _ h, heap_set_ne _ _ _ _ _ h, heap_set_ne _ _ _ _ _ h, heap_set_ne _ _ _ _ _ h, heap_set_ne _ _ _ _ _ h, heap_set_ne _ _ _ _ _ h, heap_set_ne _ _ _ _ _ h, heap_set_ne _ _ _ _ _ h, heap_set_ne _ _ _ _ _ h]
theorem TR.setEnt {w : World} {base E : Nat} {v : Value} {xs : List K.S111} (h : TR w base v xs) (hE : E < base) (b0 b1 b2 b3 b4 b5 b6 b7 : Int) (u : Value) (b9 : Int) : TR (setEnt w E b0 b1 b2 b3 b4 b5 b6 b7 u b9) base v xs :=
  (((((((((h.set hE 0 _).set hE 1 _).set hE 2 _).set hE 3 _).set hE 4 _).set hE 5 _).set hE 6 _).set hE 7 _).set hE 8 _).set hE 9 _
theorem below_setEnt {w w1 : World} (hb : Below w.heap.size w w1) (E : Nat) (hE : w.heap.size ≤ E) (b0 b1 b2 b3 b4 b5 b6 b7 : Int) (u : Value) (b9 : Int) : Below w.heap.size w (setEnt w1 E b0 b1 b2 b3 b4 b5 b6 b7 u b9) :=
  below_set_young (below_set_young (below_set_young (below_set_young (below_set_young (below_set_young (below_set_young (below_set_young (below_set_young (below_set_young hb E 0 _ hE) E 1 _ hE) E 2 _ hE) E 3 _ hE) E 4 _ hE) E 5 _ hE) E 6 _ hE) E 7 _ hE) E 8 _ hE) E 9 _ hE

set_option maxHeartbeats 8000000 in
theorem getEnt1_err {w0 w : World} {P V c p : Nat} {A : Option Addr} {b : List Int} (hC : Kd.C (Kd.int .u8) w0 A b.length b) (hc : b.length ≤ c) (hB : areBytesN b = true) (hb : Below w0.heap.size w0 w) (hP : w0.heap.size ≤ P) (k : SpotAt w P A c b.length p) (hp : p ≤ b.length) (f : Int) (hres : rent (b.drop p) = .error f) :
    Calls Try.prog 93 (#[.agg #[.pointer (some ⟨P, 0, none⟩)]] ++ #[.pointer (some ⟨V, 0, none⟩)]) w fun e w' => e = .panicked (errCh f) ∧ w.grownBy w' (some P) := by
  have hPl := k.lt
  have hbx : Below w.heap.size w (w.alloc (.cells #[.pointer (some ⟨P, 0, none⟩)] 140)) := (Below.refl _ _).alloc (Nat.le_refl _) _
  have hd := sent_is hC hc hB (hb.trans (hbx.mono hb.size)) hP (k.below hbx hPl) hp
  rw [hres] at hd
  have HD := Lib.hid hd
  have HX := Lib.hid (grown_of_below hbx (some P))
  clear hC hB hb k hd hres hbx
  show Calls _ _ #[.agg #[.pointer (some ⟨P, 0, none⟩)], .pointer (some ⟨V, 0, none⟩)] _ _
  go_enter Try.func93, Try.ntmps93
  go_wp2_with (go_at_call 94; refine HD.out.mono ?_; rintro e w1 h1; obtain ⟨rfl, hg⟩ := h1.err_inv; have HG := Lib.hid (HX.out.trans hg); clear h1 hg)
  exact ⟨rfl, rfl, HG.out⟩

set_option maxHeartbeats 8000000 in
theorem getEnt1_ok {w0 w : World} {P V c p : Nat} {A : Option Addr} {b : List Int} (hC : Kd.C (Kd.int .u8) w0 A b.length b) (hc : b.length ≤ c) (hB : areBytesN b = true) (hb : Below w0.heap.size w0 w) (hP : w0.heap.size ≤ P) (k : SpotAt w P A c b.length p) (hp : p ≤ b.length) (x : K.S26) (r : List Int) (hres : rent (b.drop p) = .ok (x, r))
    {a0 a1 a2 a3 a4 a5 a6 a7 a9 : Int} {v : Value} (kv : EntC w V a0 a1 a2 a3 a4 a5 a6 a7 v a9) (hVP : V ≠ P) :
    Calls Try.prog 93 (#[.agg #[.pointer (some ⟨P, 0, none⟩)]] ++ #[.pointer (some ⟨V, 0, none⟩)]) w fun e w' => e = .returned (.tuple #[]) ∧ ∃ u w2, w' = setEnt w2 V x.f0 x.f1 x.f2.f0 x.f2.f1 x.f2.f2 x.f2.f3 x.f2.f4 x.f2.f5 u x.f2.f7 ∧ EntC w2 V a0 a1 a2 a3 a4 a5 a6 a7 v a9 ∧ TR w2 w.heap.size u x.f2.f6 ∧ SpotAt w2 P A c b.length (b.length - r.length) ∧ w.grownBy w2 (some P) := by
  have hPl := k.lt
  have hbx : Below w.heap.size w (w.alloc (.cells #[.pointer (some ⟨P, 0, none⟩)] 140)) := (Below.refl _ _).alloc (Nat.le_refl _) _
  have hd := sent_is hC hc hB (hb.trans (hbx.mono hb.size)) hP (k.below hbx hPl) hp
  rw [hres] at hd
  have HD := Lib.hid hd
  have HX := Lib.hid (grown_of_below hbx (some P))
  have HZ := Lib.hid hbx.size
  have HV := Lib.hid kv
  clear hC hB hb k hd hres hbx kv
  show Calls _ _ #[.agg #[.pointer (some ⟨P, 0, none⟩)], .pointer (some ⟨V, 0, none⟩)] _ _
  go_enter Try.func93, Try.ntmps93
  go_wp2_with (go_at_call 94; refine HD.out.mono ?_; rintro e w1 h1; obtain ⟨v1, rfl, ⟨u, rfl, ht⟩, hk, hg⟩ := h1.ok_inv; obtain ⟨A1, k1, rfl, _, _⟩ := ht.C; have HT := Lib.hid (Kd.R_lower ht HZ.out); have HK := Lib.hid hk; have HG := Lib.hid (HX.out.trans hg); have hv1 : EntC w1 V a0 a1 a2 a3 a4 a5 a6 a7 v a9 := (HG.out.block _ HV.out.lt (by intro e; exact hVP (Option.some.inj e))).trans HV.out; have HV1 := Lib.hid hv1; obtain ⟨v0, v1, v2, v3, v4, v5, v6, v7, v8, v9⟩ := hv1.cells; have vf := hv1.f; clear h1 ht hk hg hv1)
  go_end0
  exact ⟨rfl, _, w1, rfl, HV1.out, HT.out, HK.out, HG.out⟩

set_option maxHeartbeats 8000000 in
theorem getEnt2_is {w : World} {V base : Nat} {u : Value} {x : K.S26} (kv : EntC w V x.f0 x.f1 x.f2.f0 x.f2.f1 x.f2.f2 x.f2.f3 x.f2.f4 x.f2.f5 u x.f2.f7) (ht : TR w base u x.f2.f6) :
    Calls Try.prog 95 #[.pointer (some ⟨V, 0, none⟩)] w fun e w' => e = .returned (.int .i64 (entryE x)) ∧ Below w.heap.size w w' := by
  obtain ⟨A1, k1, rfl, hk1, hC⟩ := ht.C
  have HD := Lib.hid (entry_is x A1 k1 w hC hk1)
  obtain ⟨v0, v1, v2, v3, v4, v5, v6, v7, v8, v9⟩ := kv.cells
  clear kv ht hC
  go_enter Try.func95, Try.ntmps95
  go_wp2_with (go_at_call 87; refine HD.out.mono ?_; rintro e w1 ⟨rfl, hb⟩; have HB := Lib.hid hb; clear hb)
  go_ret
  exact ⟨rfl, HB.out⟩
end Go.Proofs.Ytmbnjgnmblgjoaa.Man
end

-- GetEnt
section
/- codec.GetEntry of the given program: what it comes to, for all bytes. Printed by wip/tools/gen_getent.py. -/

namespace Go.Proofs.Ytmbnjgnmblgjoaa.Man
open Go.RowKit Go.Proofs.YtmbnjgnmblgjoaaW.PrintWords Go.Proofs.YtmbnjgnmblgjoaaW.PrintLast Go.Proofs.YtmbnjgnmblgjoaaW.PrintMore
set_option linter.unusedVariables false
set_option linter.unusedSimpArgs false
set_option maxRecDepth 100000

theorem EntC.ne {w w1 : World} {E : Nat} {a0 a1 a2 a3 a4 a5 a6 a7 a9 : Int} {v : Value} (h : EntC w E a0 a1 a2 a3 a4 a5 a6 a7 v a9) (e : w1.heap[E]? = w.heap[E]?) : EntC w1 E a0 a1 a2 a3 a4 a5 a6 a7 v a9 := e.trans h

set_option maxHeartbeats 16000000 in
theorem getEntry_is (w : World) (A : Option Addr) (c : Nat) (b : List Int) (hC : Kd.C (Kd.int .u8) w A b.length b) (hc : b.length ≤ c) (hB : areBytesN b = true) :
    Calls Try.prog 23 #[.slice A b.length c] w fun e w' => ∃ r, e = .returned (.tuple #[r, .int .i64 (getEntryF b).2]) ∧ EntR w.heap.size (getEntryF b).1 r w' ∧ Below w.heap.size w w' := by
  have hmf : ∀ (fn : Fn) (first cap : Array Value) (w : World), (Instr.makeFunc fn first cap).run Try.prog w = .ok (.func fn first cap) w := fun _ _ _ _ => rfl
  obtain ⟨wV, hwV⟩ : ∃ wV, wV = (w.alloc (.cells #[.int .i64 0, .int .i64 0, .int .i64 0, .int .i64 0, .int .i64 0, .int .i64 0, .int .i64 0, .int .i64 0, .slice none 0 0, .int .i64 0] 26)).alloc (.cells #[.int .i64 0, .int .i64 0, .int .i64 0, .int .i64 0, .int .i64 0, .int .i64 0, .int .i64 0, .int .i64 0, .slice none 0 0, .int .i64 0] 26) := ⟨_, rfl⟩
  have hbV : Below w.heap.size w wV := by rw [hwV]; exact ((Below.refl _ _).alloc (Nat.le_refl _) _).alloc (by simp) _
  have hzV : wV.heap.size = w.heap.size + 2 := by rw [hwV, World.size_alloc, World.size_alloc]
  have hS : EntC wV w.heap.size 0 0 0 0 0 0 0 0 (.slice none 0 0) 0 := by rw [hwV]; exact (Below.heap_alloc _ _ _ (by simp)).trans (World.alloc_heap_new w _)
  have hV : EntC wV (w.heap.size + 1) 0 0 0 0 0 0 0 0 (.slice none 0 0) 0 := by rw [hwV]; have := World.alloc_heap_new (w.alloc (.cells #[.int .i64 0, .int .i64 0, .int .i64 0, .int .i64 0, .int .i64 0, .int .i64 0, .int .i64 0, .int .i64 0, .slice none 0 0, .int .i64 0] 26)) (.cells #[.int .i64 0, .int .i64 0, .int .i64 0, .int .i64 0, .int .i64 0, .int .i64 0, .int .i64 0, .int .i64 0, .slice none 0 0, .int .i64 0] 26); rwa [World.size_alloc] at this
  have hbr := runW_below wV A b.length c
  have hbR : Below w.heap.size w (runW wV A b.length c) := hbV.trans (hbr.mono hbV.size)
  have hrz := runW_size wV A b.length c
  have hVr : EntC (runW wV A b.length c) (w.heap.size + 1) 0 0 0 0 0 0 0 0 (.slice none 0 0) 0 := hV.ne (hbr.block _ hV.lt)
  have hSr : EntC (runW wV A b.length c) w.heap.size 0 0 0 0 0 0 0 0 (.slice none 0 0) 0 := hS.ne (hbr.block _ hS.lt)
  have hs := spot0 wV A b.length c
  have e1 := enters_fn Try.func93 (by kernel_rfl) rfl
  have e2 := enters_fn Try.func95 (by kernel_rfl) rfl
  have hR0 : ∀ {w1 : World}, (runW wV A b.length c).grownBy w1 (some (wV.heap.size + 1)) → ResAt w1 wV.heap.size 0 := fun hg => (hg.block _ (by rw [hrz]; omega) (by intro e; have := Option.some.inj e; omega)).trans (res0 wV A b.length c)
  have hS0 : ∀ {w1 : World}, (runW wV A b.length c).grownBy w1 (some (wV.heap.size + 1)) → EntC w1 w.heap.size 0 0 0 0 0 0 0 0 (.slice none 0 0) 0 := fun hg => hSr.ne (hg.block _ (by rw [hrz]; omega) (by intro e; have := Option.some.inj e; omega))
  have hbG : ∀ {w1 : World}, (runW wV A b.length c).grownBy w1 (some (wV.heap.size + 1)) → Below w.heap.size w w1 := fun hg => below_of_grown hbR hg (by omega)
  unfold getEntryF
  rcases hres : rent b with f | ⟨x, r⟩
  · have hd := getEnt1_err (V := w.heap.size + 1) hC hc hB hbR (by omega) hs (Nat.zero_le _) f (by rw [List.drop_zero]; exact hres)
    have hrun := run_err wV A b.length c 93 95 #[.pointer (some ⟨w.heap.size + 1, 0, none⟩)] #[.pointer (some ⟨w.heap.size + 1, 0, none⟩)] f (fun w1 => EntC w1 w.heap.size 0 0 0 0 0 0 0 0 (.slice none 0 0) 0 ∧ Below w.heap.size w w1) e1
      (hd.mono fun e w1 ⟨h1, h2⟩ => ⟨h1, hR0 h2, hS0 h2, hbG h2⟩)
    have hne := ErrNz.ent b f hres
    have hneb : (f != 0) = true := by simpa using hne
    rw [hzV, hwV] at hrun
    have HR := Lib.hid hrun
    unfold allF
    simp only
    have HZ : Hid (w.heap.size ≤ w.heap.size + 2) := Lib.hid (by omega)
    clear hC hB hwV hbV hzV hS hV hbr hbR hrz hVr hSr hs e1 e2 hR0 hS0 hbG hres hd hrun hne
    go_enter Try.func23, Try.ntmps23
    go_upto_region 4 with (go_at_call 92; refine HR.out.mono ?_; rintro e w1 ⟨rfl, w2, ⟨hs1, hj⟩, rfl⟩; have HJ := Lib.hid (below_set_young hj (w.heap.size + 2) 0 (.int .i64 f) HZ.out); have HS1 : Hid (EntC (w2.setCell ⟨w.heap.size + 2, 0, none⟩ (.int .i64 f)) w.heap.size 0 0 0 0 0 0 0 0 (.slice none 0 0) 0) := Lib.hid (hs1.ne (heap_set_ne w2 _ 0 _ _ (by omega))); obtain ⟨v0, v1, v2, v3, v4, v5, v6, v7, v8, v9⟩ := HS1.out.cells; have vf := HS1.out.f; clear hj hs1)
    go_wp2
    obtain ⟨z0, z1, z2, z3, z4, z5, z6, z7, z8, z9⟩ := (HS1.out.set 0 0 0 0 0 0 0 0 (.slice none 0 0) 0).cells
    unfold setEnt at z0 z1 z2 z3 z4 z5 z6 z7 z8 z9
    refine bodyPost_ret (v := .tuple #[.agg #[.int .i64 0, .int .i64 0, .int .i64 0, .int .i64 0, .int .i64 0, .int .i64 0, .int .i64 0, .int .i64 0, .slice none 0 0, .int .i64 0], .int .i64 f]) (by simp [results, Try.results23, go_sem, z0, z1, z2, z3, z4, z5, z6, z7, z8, z9]) rfl ?_
    exact ⟨_, rfl, ⟨_, rfl, Kd.R_nil _ _ _ _ _⟩, below_setEnt HJ.out w.heap.size (Nat.le_refl _) 0 0 0 0 0 0 0 0 (.slice none 0 0) 0⟩
  · have hd := getEnt1_ok hC hc hB hbR (by omega) hs (Nat.zero_le _) x r (by rw [List.drop_zero]; exact hres) hVr (by omega)
    have hbr1 := (rent_inv hB hres).1
    have hrl : r.length ≤ b.length := by rw [hbr1, List.length_append]; omega
    have hread : Calls Try.prog 93 (#[.agg #[.pointer (some ⟨wV.heap.size + 1, 0, none⟩)]] ++ #[.pointer (some ⟨w.heap.size + 1, 0, none⟩)]) (runW wV A b.length c) fun e w1 => e = .returned (.tuple #[]) ∧ ResAt w1 wV.heap.size 0 ∧ SpotAt w1 (wV.heap.size + 1) A c b.length (b.length - r.length) ∧ (∃ u, EntC w1 (w.heap.size + 1) x.f0 x.f1 x.f2.f0 x.f2.f1 x.f2.f2 x.f2.f3 x.f2.f4 x.f2.f5 u x.f2.f7 ∧ TR w1 (w.heap.size + 4) u x.f2.f6 ∧ EntC w1 w.heap.size 0 0 0 0 0 0 0 0 (.slice none 0 0) 0 ∧ Below w.heap.size w w1) := by
      refine hd.mono ?_
      rintro e w1 ⟨rfl, u, w2, rfl, hv2, ht, hk, hg⟩
      refine ⟨rfl, (setEnt_ne w2 _ _ _ _ _ _ _ _ _ _ _ _ (by omega)).trans (hR0 hg), (setEnt_ne w2 _ _ _ _ _ _ _ _ _ _ _ _ (by omega)).trans hk, u, hv2.set _ _ _ _ _ _ _ _ _ _, Kd.R_lower (ht.setEnt (by rw [hrz]; omega) _ _ _ _ _ _ _ _ _ _) (by rw [hrz]; omega), (hS0 hg).ne (setEnt_ne w2 _ _ _ _ _ _ _ _ _ _ _ _ (by omega)), below_setEnt (hbG hg) _ (Nat.le_succ _) _ _ _ _ _ _ _ _ _ _⟩
    have hright : ∀ w1, (∃ u, EntC w1 (w.heap.size + 1) x.f0 x.f1 x.f2.f0 x.f2.f1 x.f2.f2 x.f2.f3 x.f2.f4 x.f2.f5 u x.f2.f7 ∧ TR w1 (w.heap.size + 4) u x.f2.f6 ∧ EntC w1 w.heap.size 0 0 0 0 0 0 0 0 (.slice none 0 0) 0 ∧ Below w.heap.size w w1) → Calls Try.prog 95 #[.pointer (some ⟨w.heap.size + 1, 0, none⟩)] w1 fun e w2 => e = .returned (.int .i64 (entryE x)) ∧ Below w1.heap.size w1 w2 := by
      rintro w1 ⟨u, kv, ht, _⟩
      exact getEnt2_is kv ht
    unfold allF
    simp only
    by_cases hr : 0 < r.length
    · rw [if_pos (.inl hr)]
      have hrun := run_left wV A b.length c (b.length - r.length) 93 95 #[.pointer (some ⟨w.heap.size + 1, 0, none⟩)] #[.pointer (some ⟨w.heap.size + 1, 0, none⟩)] _ (by omega) e1 hread
      rw [hzV, hwV] at hrun
      have HR := Lib.hid hrun
      have HZ : Hid (w.heap.size ≤ w.heap.size + 2) := Lib.hid (by omega)
      clear hC hB hwV hbV hzV hS hV hbr hbR hrz hVr hSr hs e1 e2 hR0 hS0 hbG hres hd hrun hread hright hbr1
      go_enter Try.func23, Try.ntmps23
      go_upto_region 4 with (go_at_call 92; refine HR.out.mono ?_; rintro e w1 ⟨rfl, w2, ⟨u, _, _, hs1, hj⟩, rfl⟩; have HJ := Lib.hid (below_set_young hj (w.heap.size + 2) 0 (.int .i64 4) HZ.out); have HS1 : Hid (EntC (w2.setCell ⟨w.heap.size + 2, 0, none⟩ (.int .i64 4)) w.heap.size 0 0 0 0 0 0 0 0 (.slice none 0 0) 0) := Lib.hid (hs1.ne (heap_set_ne w2 _ 0 _ _ (by omega))); obtain ⟨v0, v1, v2, v3, v4, v5, v6, v7, v8, v9⟩ := HS1.out.cells; have vf := HS1.out.f; clear hj hs1)
      go_wp2
      obtain ⟨z0, z1, z2, z3, z4, z5, z6, z7, z8, z9⟩ := (HS1.out.set 0 0 0 0 0 0 0 0 (.slice none 0 0) 0).cells
      unfold setEnt at z0 z1 z2 z3 z4 z5 z6 z7 z8 z9
      refine bodyPost_ret (v := .tuple #[.agg #[.int .i64 0, .int .i64 0, .int .i64 0, .int .i64 0, .int .i64 0, .int .i64 0, .int .i64 0, .int .i64 0, .slice none 0 0, .int .i64 0], .int .i64 4]) (by simp [results, Try.results23, go_sem, z0, z1, z2, z3, z4, z5, z6, z7, z8, z9]) rfl ?_
      exact ⟨_, rfl, ⟨_, rfl, Kd.R_nil _ _ _ _ _⟩, below_setEnt HJ.out w.heap.size (Nat.le_refl _) 0 0 0 0 0 0 0 0 (.slice none 0 0) 0⟩
    · have hr0 : b.length - r.length = b.length := by omega
      rw [hr0] at hread
      by_cases h0 : entryE x = 0
      · rw [if_neg (by omega)]
        rw [h0] at hright
        have hrun := run_good wV A b.length c 93 95 #[.pointer (some ⟨w.heap.size + 1, 0, none⟩)] #[.pointer (some ⟨w.heap.size + 1, 0, none⟩)] _ e1 e2 hread hright
        rw [hzV, hwV] at hrun
        have HR := Lib.hid hrun
        have HZ : Hid (w.heap.size ≤ w.heap.size + 2) := Lib.hid (by omega)
        clear hC hB hwV hbV hzV hS hV hbr hbR hrz hVr hSr hs e1 e2 hR0 hS0 hbG hres hd hrun hread hright hbr1 hr hr0 h0
        go_enter Try.func23, Try.ntmps23
        go_upto_region 5 with (go_at_call 92; refine HR.out.mono ?_; rintro e w1 ⟨rfl, w2, w3, ⟨u, hv, ht, hs1, hj⟩, hb3, rfl⟩; obtain ⟨A1, k1, rfl, _, _⟩ := ht.C; have HJ := Lib.hid (below_set_young (hj.trans (hb3.mono hj.size)) (w.heap.size + 2) 0 (.int .i64 0) HZ.out); have HV3 : Hid (EntC (w3.setCell ⟨w.heap.size + 2, 0, none⟩ (.int .i64 0)) (w.heap.size + 1) x.f0 x.f1 x.f2.f0 x.f2.f1 x.f2.f2 x.f2.f3 x.f2.f4 x.f2.f5 (.slice A1 x.f2.f6.length k1) x.f2.f7) := Lib.hid (hv.ne ((heap_set_ne w3 _ 0 _ _ (by omega)).trans (hb3.block _ hv.lt))); have HS3 : Hid (EntC (w3.setCell ⟨w.heap.size + 2, 0, none⟩ (.int .i64 0)) w.heap.size 0 0 0 0 0 0 0 0 (.slice none 0 0) 0) := Lib.hid (hs1.ne ((heap_set_ne w3 _ 0 _ _ (by omega)).trans (hb3.block _ hs1.lt))); have HT : Hid (TR (w3.setCell ⟨w.heap.size + 2, 0, none⟩ (.int .i64 0)) (w.heap.size + 4) (.slice A1 x.f2.f6.length k1) x.f2.f6) := Lib.hid (TR.set (Kd.R_below ht hb3) (E := w.heap.size + 2) (by omega) 0 _); clear hv ht hj hb3 hs1)
        obtain ⟨w4, hw4⟩ : ∃ w4, w3.setCell ⟨w.heap.size + 2, 0, none⟩ (.int .i64 0) = w4 := ⟨_, rfl⟩
        rw [hw4] at HJ HV3 HS3 HT ⊢
        clear hw4
        obtain ⟨u0, u1, u2, u3, u4, u5, u6, u7, u8, u9⟩ := HV3.out.cells
        obtain ⟨s0, s1, s2, s3, s4, s5, s6, s7, s8, s9⟩ := HS3.out.cells
        have sf := HS3.out.f
        go_wp2
        obtain ⟨z0, z1, z2, z3, z4, z5, z6, z7, z8, z9⟩ := (HS3.out.set x.f0 x.f1 x.f2.f0 x.f2.f1 x.f2.f2 x.f2.f3 x.f2.f4 x.f2.f5 (.slice A1 x.f2.f6.length k1) x.f2.f7).cells
        unfold setEnt at z0 z1 z2 z3 z4 z5 z6 z7 z8 z9
        refine bodyPost_ret (v := .tuple #[.agg #[.int .i64 x.f0, .int .i64 x.f1, .int .i64 x.f2.f0, .int .i64 x.f2.f1, .int .i64 x.f2.f2, .int .i64 x.f2.f3, .int .i64 x.f2.f4, .int .i64 x.f2.f5, .slice A1 x.f2.f6.length k1, .int .i64 x.f2.f7], .int .i64 0]) (by simp [results, Try.results23, go_sem, z0, z1, z2, z3, z4, z5, z6, z7, z8, z9]) rfl ?_
        exact ⟨_, rfl, ⟨_, rfl, Kd.R_lower (HT.out.setEnt (E := w.heap.size) (by omega) _ _ _ _ _ _ _ _ _ _) (by omega)⟩, below_setEnt HJ.out w.heap.size (Nat.le_refl _) x.f0 x.f1 x.f2.f0 x.f2.f1 x.f2.f2 x.f2.f3 x.f2.f4 x.f2.f5 (.slice A1 x.f2.f6.length k1) x.f2.f7⟩
      · rw [if_pos (.inr h0)]
        have hrun := run_bad wV A b.length c 93 95 #[.pointer (some ⟨w.heap.size + 1, 0, none⟩)] #[.pointer (some ⟨w.heap.size + 1, 0, none⟩)] _ (entryE x) h0 e1 e2 hread hright
        rw [hzV, hwV] at hrun
        have HR := Lib.hid hrun
        have HZ : Hid (w.heap.size ≤ w.heap.size + 2) := Lib.hid (by omega)
        clear hC hB hwV hbV hzV hS hV hbr hbR hrz hVr hSr hs e1 e2 hR0 hS0 hbG hres hd hrun hread hright hbr1 hr hr0 h0
        go_enter Try.func23, Try.ntmps23
        go_upto_region 4 with (go_at_call 92; refine HR.out.mono ?_; rintro e w1 ⟨rfl, w2, w3, ⟨u, _, _, hs0, hj0⟩, hb3, rfl⟩; have hj := hj0.trans (hb3.mono hj0.size); have hs1 := hs0.ne (hb3.block _ hs0.lt); have HJ := Lib.hid (below_set_young hj (w.heap.size + 2) 0 (.int .i64 4) HZ.out); have HS1 : Hid (EntC (w3.setCell ⟨w.heap.size + 2, 0, none⟩ (.int .i64 4)) w.heap.size 0 0 0 0 0 0 0 0 (.slice none 0 0) 0) := Lib.hid (hs1.ne (heap_set_ne w3 _ 0 _ _ (by omega))); obtain ⟨v0, v1, v2, v3, v4, v5, v6, v7, v8, v9⟩ := HS1.out.cells; have vf := HS1.out.f; clear hj hs1)
        go_wp2
        obtain ⟨z0, z1, z2, z3, z4, z5, z6, z7, z8, z9⟩ := (HS1.out.set 0 0 0 0 0 0 0 0 (.slice none 0 0) 0).cells
        unfold setEnt at z0 z1 z2 z3 z4 z5 z6 z7 z8 z9
        refine bodyPost_ret (v := .tuple #[.agg #[.int .i64 0, .int .i64 0, .int .i64 0, .int .i64 0, .int .i64 0, .int .i64 0, .int .i64 0, .int .i64 0, .slice none 0 0, .int .i64 0], .int .i64 4]) (by simp [results, Try.results23, go_sem, z0, z1, z2, z3, z4, z5, z6, z7, z8, z9]) rfl ?_
        exact ⟨_, rfl, ⟨_, rfl, Kd.R_nil _ _ _ _ _⟩, below_setEnt HJ.out w.heap.size (Nat.le_refl _) 0 0 0 0 0 0 0 0 (.slice none 0 0) 0⟩
end Go.Proofs.Ytmbnjgnmblgjoaa.Man
end
