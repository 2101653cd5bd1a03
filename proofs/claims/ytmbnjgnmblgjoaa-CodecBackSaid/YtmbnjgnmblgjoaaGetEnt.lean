/- codec.GetEntry of the given program: what it comes to, for all bytes. Printed by wip/tools/gen_getent.py. -/
import Derived.Test.YtmbnjgnmblgjoaaGets
namespace Go.Proofs.Ytmbnjgnmblgjoaa.Man
open Go.RowKit Go.Proofs.YtmbnjgnmblgjoaaW.PrintWords Go.Proofs.YtmbnjgnmblgjoaaW.PrintLast Go.Proofs.YtmbnjgnmblgjoaaW.PrintMore
set_option linter.unusedVariables false
set_option linter.unusedSimpArgs false
set_option maxRecDepth 100000

theorem EntC.ne {w w1 : World} {E : Nat} {a0 a1 a2 a3 a4 a5 a6 a7 a9 : Int} {v : Value} (h : EntC w E a0 a1 a2 a3 a4 a5 a6 a7 v a9) (e : w1.heap[E]? = w.heap[E]?) : EntC w1 E a0 a1 a2 a3 a4 a5 a6 a7 v a9 := e.trans h

set_option maxHeartbeats 16000000 in
theorem getEntry_is (w : World) (A : Option Addr) (c : Nat) (b : List Int) (hC : Kd.C (Kd.int .u8) w A b.length b) (hc : b.length ≤ c) (hB : areBytesN b = true) :
    Calls Try.prog 23 #[.slice A b.length c] w fun e w' => ∃ r, e = .returned (.tuple #[r, .int .i64 (getEntryF b).2]) ∧ EntR w.heap.size (getEntryF b).1 r w' ∧ Below w.heap.size w w' := by
  have hmf : ∀ (fn : Fn) (first cap : Array Value) (w : World), (Instr.makeFunc fn first cap).run Try.prog w = .ok (.func fn first cap) w := fun _ _ _ _ => rfl
  obtain ⟨wV, hwV⟩ : ∃ wV, wV = (w.alloc (.cells #[.int .i64 0, .int .i64 0, .int .i64 0, .int .i64 0, .int .i64 0, .int .i64 0, .int .i64 0, .int .i64 0, .slice none 0 0, .int .i64 0] 26)).alloc (.cells #[.int .i64 0, .int .i64 0, .int .i64 0, .int .i64 0, .int .i64 0, .int .i64 0, .int .i64 0, .int .i64 0, .slice none 0 0, .int .i64 0] 26) := ⟨_, rfl⟩
  have hbV : Below w.heap.size w wV := by rw [hwV]; exact ((Below.refl _ _).alloc (Nat.le_refl _) _).alloc (by simp) _
  have hzV : wV.heap.size = w.heap.size + 2 := by rw [hwV, World.size_alloc, World.size_alloc]
  have hS : EntC wV w.heap.size 0 0 0 0 0 0 0 0 (.slice none 0 0) 0 := by rw [hwV]; exact (Below.heap_alloc _ _ _ (by simp)).trans (World.alloc_heap_new w _)
  have hV : EntC wV (w.heap.size + 1) 0 0 0 0 0 0 0 0 (.slice none 0 0) 0 := by rw [hwV]; have := World.alloc_heap_new (w.alloc (.cells #[.int .i64 0, .int .i64 0, .int .i64 0, .int .i64 0, .int .i64 0, .int .i64 0, .int .i64 0, .int .i64 0, .slice none 0 0, .int .i64 0] 26)) (.cells #[.int .i64 0, .int .i64 0, .int .i64 0, .int .i64 0, .int .i64 0, .int .i64 0, .int .i64 0, .int .i64 0, .slice none 0 0, .int .i64 0] 26); rwa [World.size_alloc] at this
  have hbr := runW_below wV A b.length c
  have hbR : Below w.heap.size w (runW wV A b.length c) := hbV.trans (hbr.mono hbV.size)
  have hrz := runW_size wV A b.length c
  have hVr : EntC (runW wV A b.length c) (w.heap.size + 1) 0 0 0 0 0 0 0 0 (.slice none 0 0) 0 := hV.ne (hbr.block _ hV.lt)
  have hSr : EntC (runW wV A b.length c) w.heap.size 0 0 0 0 0 0 0 0 (.slice none 0 0) 0 := hS.ne (hbr.block _ hS.lt)
  have hs := spot0 wV A b.length c
  have e1 := enters_fn Try.func93 (by kernel_rfl) rfl
  have e2 := enters_fn Try.func95 (by kernel_rfl) rfl
  have hR0 : ∀ {w1 : World}, (runW wV A b.length c).grownBy w1 (some (wV.heap.size + 1)) → ResAt w1 wV.heap.size 0 := fun hg => (hg.block _ (by rw [hrz]; omega) (by intro e; have := Option.some.inj e; omega)).trans (res0 wV A b.length c)
  have hS0 : ∀ {w1 : World}, (runW wV A b.length c).grownBy w1 (some (wV.heap.size + 1)) → EntC w1 w.heap.size 0 0 0 0 0 0 0 0 (.slice none 0 0) 0 := fun hg => hSr.ne (hg.block _ (by rw [hrz]; omega) (by intro e; have := Option.some.inj e; omega))
  have hbG : ∀ {w1 : World}, (runW wV A b.length c).grownBy w1 (some (wV.heap.size + 1)) → Below w.heap.size w w1 := fun hg => below_of_grown hbR hg (by omega)
  unfold getEntryF
  rcases hres : rent b with f | ⟨x, r⟩
  · have hd := getEnt1_err (V := w.heap.size + 1) hC hc hB hbR (by omega) hs (Nat.zero_le _) f (by rw [List.drop_zero]; exact hres)
    have hrun := run_err wV A b.length c 93 95 #[.pointer (some ⟨w.heap.size + 1, 0, none⟩)] #[.pointer (some ⟨w.heap.size + 1, 0, none⟩)] f (fun w1 => EntC w1 w.heap.size 0 0 0 0 0 0 0 0 (.slice none 0 0) 0 ∧ Below w.heap.size w w1) e1
      (hd.mono fun e w1 ⟨h1, h2⟩ => ⟨h1, hR0 h2, hS0 h2, hbG h2⟩)
    have hne := ErrNz.ent b f hres
    have hneb : (f != 0) = true := by simpa using hne
    rw [hzV, hwV] at hrun
    have HR := Lib.hid hrun
    unfold allF
    simp only
    have HZ : Hid (w.heap.size ≤ w.heap.size + 2) := Lib.hid (by omega)
    clear hC hB hwV hbV hzV hS hV hbr hbR hrz hVr hSr hs e1 e2 hR0 hS0 hbG hres hd hrun hne
    go_enter Try.func23, Try.ntmps23
    go_upto_region 4 with (go_at_call 92; refine HR.out.mono ?_; rintro e w1 ⟨rfl, w2, ⟨hs1, hj⟩, rfl⟩; have HJ := Lib.hid (below_set_young hj (w.heap.size + 2) 0 (.int .i64 f) HZ.out); have HS1 : Hid (EntC (w2.setCell ⟨w.heap.size + 2, 0, none⟩ (.int .i64 f)) w.heap.size 0 0 0 0 0 0 0 0 (.slice none 0 0) 0) := Lib.hid (hs1.ne (heap_set_ne w2 _ 0 _ _ (by omega))); obtain ⟨v0, v1, v2, v3, v4, v5, v6, v7, v8, v9⟩ := HS1.out.cells; have vf := HS1.out.f; clear hj hs1)
    go_wp2
    obtain ⟨z0, z1, z2, z3, z4, z5, z6, z7, z8, z9⟩ := (HS1.out.set 0 0 0 0 0 0 0 0 (.slice none 0 0) 0).cells
    unfold setEnt at z0 z1 z2 z3 z4 z5 z6 z7 z8 z9
    refine bodyPost_ret (v := .tuple #[.agg #[.int .i64 0, .int .i64 0, .int .i64 0, .int .i64 0, .int .i64 0, .int .i64 0, .int .i64 0, .int .i64 0, .slice none 0 0, .int .i64 0], .int .i64 f]) (by simp [results, Try.results23, go_sem, z0, z1, z2, z3, z4, z5, z6, z7, z8, z9]) rfl ?_
    exact ⟨_, rfl, ⟨_, rfl, Kd.R_nil _ _ _ _ _⟩, below_setEnt HJ.out w.heap.size (Nat.le_refl _) 0 0 0 0 0 0 0 0 (.slice none 0 0) 0⟩
  · have hd := getEnt1_ok hC hc hB hbR (by omega) hs (Nat.zero_le _) x r (by rw [List.drop_zero]; exact hres) hVr (by omega)
    have hbr1 := (rent_inv hB hres).1
    have hrl : r.length ≤ b.length := by rw [hbr1, List.length_append]; omega
    have hread : Calls Try.prog 93 (#[.agg #[.pointer (some ⟨wV.heap.size + 1, 0, none⟩)]] ++ #[.pointer (some ⟨w.heap.size + 1, 0, none⟩)]) (runW wV A b.length c) fun e w1 => e = .returned (.tuple #[]) ∧ ResAt w1 wV.heap.size 0 ∧ SpotAt w1 (wV.heap.size + 1) A c b.length (b.length - r.length) ∧ (∃ u, EntC w1 (w.heap.size + 1) x.f0 x.f1 x.f2.f0 x.f2.f1 x.f2.f2 x.f2.f3 x.f2.f4 x.f2.f5 u x.f2.f7 ∧ TR w1 (w.heap.size + 4) u x.f2.f6 ∧ EntC w1 w.heap.size 0 0 0 0 0 0 0 0 (.slice none 0 0) 0 ∧ Below w.heap.size w w1) := by
      refine hd.mono ?_
      rintro e w1 ⟨rfl, u, w2, rfl, hv2, ht, hk, hg⟩
      refine ⟨rfl, (setEnt_ne w2 _ _ _ _ _ _ _ _ _ _ _ _ (by omega)).trans (hR0 hg), (setEnt_ne w2 _ _ _ _ _ _ _ _ _ _ _ _ (by omega)).trans hk, u, hv2.set _ _ _ _ _ _ _ _ _ _, Kd.R_lower (ht.setEnt (by rw [hrz]; omega) _ _ _ _ _ _ _ _ _ _) (by rw [hrz]; omega), (hS0 hg).ne (setEnt_ne w2 _ _ _ _ _ _ _ _ _ _ _ _ (by omega)), below_setEnt (hbG hg) _ (Nat.le_succ _) _ _ _ _ _ _ _ _ _ _⟩
    have hright : ∀ w1, (∃ u, EntC w1 (w.heap.size + 1) x.f0 x.f1 x.f2.f0 x.f2.f1 x.f2.f2 x.f2.f3 x.f2.f4 x.f2.f5 u x.f2.f7 ∧ TR w1 (w.heap.size + 4) u x.f2.f6 ∧ EntC w1 w.heap.size 0 0 0 0 0 0 0 0 (.slice none 0 0) 0 ∧ Below w.heap.size w w1) → Calls Try.prog 95 #[.pointer (some ⟨w.heap.size + 1, 0, none⟩)] w1 fun e w2 => e = .returned (.int .i64 (entryE x)) ∧ Below w1.heap.size w1 w2 := by
      rintro w1 ⟨u, kv, ht, _⟩
      exact getEnt2_is kv ht
    unfold allF
    simp only
    by_cases hr : 0 < r.length
    · rw [if_pos (.inl hr)]
      have hrun := run_left wV A b.length c (b.length - r.length) 93 95 #[.pointer (some ⟨w.heap.size + 1, 0, none⟩)] #[.pointer (some ⟨w.heap.size + 1, 0, none⟩)] _ (by omega) e1 hread
      rw [hzV, hwV] at hrun
      have HR := Lib.hid hrun
      have HZ : Hid (w.heap.size ≤ w.heap.size + 2) := Lib.hid (by omega)
      clear hC hB hwV hbV hzV hS hV hbr hbR hrz hVr hSr hs e1 e2 hR0 hS0 hbG hres hd hrun hread hright hbr1
      go_enter Try.func23, Try.ntmps23
      go_upto_region 4 with (go_at_call 92; refine HR.out.mono ?_; rintro e w1 ⟨rfl, w2, ⟨u, _, _, hs1, hj⟩, rfl⟩; have HJ := Lib.hid (below_set_young hj (w.heap.size + 2) 0 (.int .i64 4) HZ.out); have HS1 : Hid (EntC (w2.setCell ⟨w.heap.size + 2, 0, none⟩ (.int .i64 4)) w.heap.size 0 0 0 0 0 0 0 0 (.slice none 0 0) 0) := Lib.hid (hs1.ne (heap_set_ne w2 _ 0 _ _ (by omega))); obtain ⟨v0, v1, v2, v3, v4, v5, v6, v7, v8, v9⟩ := HS1.out.cells; have vf := HS1.out.f; clear hj hs1)
      go_wp2
      obtain ⟨z0, z1, z2, z3, z4, z5, z6, z7, z8, z9⟩ := (HS1.out.set 0 0 0 0 0 0 0 0 (.slice none 0 0) 0).cells
      unfold setEnt at z0 z1 z2 z3 z4 z5 z6 z7 z8 z9
      refine bodyPost_ret (v := .tuple #[.agg #[.int .i64 0, .int .i64 0, .int .i64 0, .int .i64 0, .int .i64 0, .int .i64 0, .int .i64 0, .int .i64 0, .slice none 0 0, .int .i64 0], .int .i64 4]) (by simp [results, Try.results23, go_sem, z0, z1, z2, z3, z4, z5, z6, z7, z8, z9]) rfl ?_
      exact ⟨_, rfl, ⟨_, rfl, Kd.R_nil _ _ _ _ _⟩, below_setEnt HJ.out w.heap.size (Nat.le_refl _) 0 0 0 0 0 0 0 0 (.slice none 0 0) 0⟩
    · have hr0 : b.length - r.length = b.length := by omega
      rw [hr0] at hread
      by_cases h0 : entryE x = 0
      · rw [if_neg (by omega)]
        rw [h0] at hright
        have hrun := run_good wV A b.length c 93 95 #[.pointer (some ⟨w.heap.size + 1, 0, none⟩)] #[.pointer (some ⟨w.heap.size + 1, 0, none⟩)] _ e1 e2 hread hright
        rw [hzV, hwV] at hrun
        have HR := Lib.hid hrun
        have HZ : Hid (w.heap.size ≤ w.heap.size + 2) := Lib.hid (by omega)
        clear hC hB hwV hbV hzV hS hV hbr hbR hrz hVr hSr hs e1 e2 hR0 hS0 hbG hres hd hrun hread hright hbr1 hr hr0 h0
        go_enter Try.func23, Try.ntmps23
        go_upto_region 5 with (go_at_call 92; refine HR.out.mono ?_; rintro e w1 ⟨rfl, w2, w3, ⟨u, hv, ht, hs1, hj⟩, hb3, rfl⟩; obtain ⟨A1, k1, rfl, _, _⟩ := ht.C; have HJ := Lib.hid (below_set_young (hj.trans (hb3.mono hj.size)) (w.heap.size + 2) 0 (.int .i64 0) HZ.out); have HV3 : Hid (EntC (w3.setCell ⟨w.heap.size + 2, 0, none⟩ (.int .i64 0)) (w.heap.size + 1) x.f0 x.f1 x.f2.f0 x.f2.f1 x.f2.f2 x.f2.f3 x.f2.f4 x.f2.f5 (.slice A1 x.f2.f6.length k1) x.f2.f7) := Lib.hid (hv.ne ((heap_set_ne w3 _ 0 _ _ (by omega)).trans (hb3.block _ hv.lt))); have HS3 : Hid (EntC (w3.setCell ⟨w.heap.size + 2, 0, none⟩ (.int .i64 0)) w.heap.size 0 0 0 0 0 0 0 0 (.slice none 0 0) 0) := Lib.hid (hs1.ne ((heap_set_ne w3 _ 0 _ _ (by omega)).trans (hb3.block _ hs1.lt))); have HT : Hid (TR (w3.setCell ⟨w.heap.size + 2, 0, none⟩ (.int .i64 0)) (w.heap.size + 4) (.slice A1 x.f2.f6.length k1) x.f2.f6) := Lib.hid (TR.set (Kd.R_below ht hb3) (E := w.heap.size + 2) (by omega) 0 _); clear hv ht hj hb3 hs1)
        obtain ⟨w4, hw4⟩ : ∃ w4, w3.setCell ⟨w.heap.size + 2, 0, none⟩ (.int .i64 0) = w4 := ⟨_, rfl⟩
        rw [hw4] at HJ HV3 HS3 HT ⊢
        clear hw4
        obtain ⟨u0, u1, u2, u3, u4, u5, u6, u7, u8, u9⟩ := HV3.out.cells
        obtain ⟨s0, s1, s2, s3, s4, s5, s6, s7, s8, s9⟩ := HS3.out.cells
        have sf := HS3.out.f
        go_wp2
        obtain ⟨z0, z1, z2, z3, z4, z5, z6, z7, z8, z9⟩ := (HS3.out.set x.f0 x.f1 x.f2.f0 x.f2.f1 x.f2.f2 x.f2.f3 x.f2.f4 x.f2.f5 (.slice A1 x.f2.f6.length k1) x.f2.f7).cells
        unfold setEnt at z0 z1 z2 z3 z4 z5 z6 z7 z8 z9
        refine bodyPost_ret (v := .tuple #[.agg #[.int .i64 x.f0, .int .i64 x.f1, .int .i64 x.f2.f0, .int .i64 x.f2.f1, .int .i64 x.f2.f2, .int .i64 x.f2.f3, .int .i64 x.f2.f4, .int .i64 x.f2.f5, .slice A1 x.f2.f6.length k1, .int .i64 x.f2.f7], .int .i64 0]) (by simp [results, Try.results23, go_sem, z0, z1, z2, z3, z4, z5, z6, z7, z8, z9]) rfl ?_
        exact ⟨_, rfl, ⟨_, rfl, Kd.R_lower (HT.out.setEnt (E := w.heap.size) (by omega) _ _ _ _ _ _ _ _ _ _) (by omega)⟩, below_setEnt HJ.out w.heap.size (Nat.le_refl _) x.f0 x.f1 x.f2.f0 x.f2.f1 x.f2.f2 x.f2.f3 x.f2.f4 x.f2.f5 (.slice A1 x.f2.f6.length k1) x.f2.f7⟩
      · rw [if_pos (.inr h0)]
        have hrun := run_bad wV A b.length c 93 95 #[.pointer (some ⟨w.heap.size + 1, 0, none⟩)] #[.pointer (some ⟨w.heap.size + 1, 0, none⟩)] _ (entryE x) h0 e1 e2 hread hright
        rw [hzV, hwV] at hrun
        have HR := Lib.hid hrun
        have HZ : Hid (w.heap.size ≤ w.heap.size + 2) := Lib.hid (by omega)
        clear hC hB hwV hbV hzV hS hV hbr hbR hrz hVr hSr hs e1 e2 hR0 hS0 hbG hres hd hrun hread hright hbr1 hr hr0 h0
        go_enter Try.func23, Try.ntmps23
        go_upto_region 4 with (go_at_call 92; refine HR.out.mono ?_; rintro e w1 ⟨rfl, w2, w3, ⟨u, _, _, hs0, hj0⟩, hb3, rfl⟩; have hj := hj0.trans (hb3.mono hj0.size); have hs1 := hs0.ne (hb3.block _ hs0.lt); have HJ := Lib.hid (below_set_young hj (w.heap.size + 2) 0 (.int .i64 4) HZ.out); have HS1 : Hid (EntC (w3.setCell ⟨w.heap.size + 2, 0, none⟩ (.int .i64 4)) w.heap.size 0 0 0 0 0 0 0 0 (.slice none 0 0) 0) := Lib.hid (hs1.ne (heap_set_ne w3 _ 0 _ _ (by omega))); obtain ⟨v0, v1, v2, v3, v4, v5, v6, v7, v8, v9⟩ := HS1.out.cells; have vf := HS1.out.f; clear hj hs1)
        go_wp2
        obtain ⟨z0, z1, z2, z3, z4, z5, z6, z7, z8, z9⟩ := (HS1.out.set 0 0 0 0 0 0 0 0 (.slice none 0 0) 0).cells
        unfold setEnt at z0 z1 z2 z3 z4 z5 z6 z7 z8 z9
        refine bodyPost_ret (v := .tuple #[.agg #[.int .i64 0, .int .i64 0, .int .i64 0, .int .i64 0, .int .i64 0, .int .i64 0, .int .i64 0, .int .i64 0, .slice none 0 0, .int .i64 0], .int .i64 4]) (by simp [results, Try.results23, go_sem, z0, z1, z2, z3, z4, z5, z6, z7, z8, z9]) rfl ?_
        exact ⟨_, rfl, ⟨_, rfl, Kd.R_nil _ _ _ _ _⟩, below_setEnt HJ.out w.heap.size (Nat.le_refl _) 0 0 0 0 0 0 0 0 (.slice none 0 0) 0⟩
end Go.Proofs.Ytmbnjgnmblgjoaa.Man
