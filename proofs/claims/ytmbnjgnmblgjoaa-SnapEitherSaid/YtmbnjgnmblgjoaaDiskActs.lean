/- The given program's disk (layer 17), act by act: what each comes to on a disk that was made. -/
import Derived.Test.YtmbnjgnmblgjoaaDiskRow
namespace Go.Proofs.Ytmbnjgnmblgjoaa.Man
open Go.RowKit Go.Proofs.YtmbnjgnmblgjoaaW.PrintWords Go.Proofs.YtmbnjgnmblgjoaaW.PrintLast
set_option linter.unusedVariables false
set_option linter.unusedSimpArgs false
set_option maxRecDepth 100000

theorem DiskS.none {w : World} {base B : Nat} {v : Value} {xs : List Int} {s m : Int} (h : DiskS w base B v xs s m) : Calls Try.prog 99 #[.pointer (some ⟨B, 0, none⟩)] w fun e w' => e = .returned (.bool false) ∧ w = w' := none_at w B v s m true h.cells

/-- New: an empty one. -/
theorem new_is (n : Int) (w : World) (base : Nat) (hb : base ≤ w.heap.size) (h0 : 0 ≤ n) (h1 : n ≤ 262144) : Calls Try.prog 26 #[.int .i64 n] w fun e w' => e = .returned (.tuple #[.pointer (some ⟨w.heap.size, 0, none⟩), .int .i64 0]) ∧ DiskS w' base w.heap.size (.slice none 0 0) [] 0 n ∧ Below w.heap.size w w' := by
  go_enter Try.func26, Try.ntmps26
  go_wp2
  go_ret2
  exact ⟨rfl, ⟨World.alloc_heap_new w _, DRow.nil _ _, hb, h0, h1, h0, by omega, by simp⟩, (Below.refl _ _).alloc (Nat.le_refl _) _⟩

theorem len_is {w : World} {base B : Nat} {v : Value} {xs : List Int} {s m : Int} (h : DiskS w base B v xs s m) : Calls Try.prog 39 #[.pointer (some ⟨B, 0, none⟩)] w fun e w' => e = .returned (.int .i64 (xs.length : Int)) ∧ w = w' := by
  obtain ⟨A, c, rfl, hc⟩ := h.row.len
  have c0 := h.cells.c0
  have H := Lib.hid h
  clear h
  go_enter Try.func39, Try.ntmps39
  go_wp2_with (go_at_call 99; refine H.out.none.mono ?_; rintro e w' ⟨rfl, rfl⟩)
  go_ret
  exact ⟨rfl, rfl⟩
theorem sure_is {w : World} {base B : Nat} {v : Value} {xs : List Int} {s m : Int} (h : DiskS w base B v xs s m) : Calls Try.prog 40 #[.pointer (some ⟨B, 0, none⟩)] w fun e w' => e = .returned (.int .i64 s) ∧ w = w' := by
  have c1 := h.cells.c1
  have H := Lib.hid h
  clear h
  go_enter Try.func40, Try.ntmps40
  go_wp2_with (go_at_call 99; refine H.out.none.mono ?_; rintro e w' ⟨rfl, rfl⟩)
  go_ret
  exact ⟨rfl, rfl⟩

theorem DStep.put {w w1 : World} {B : Nat} {v v' : Value} (h : DStep w w1 B v v') (k : Nat) (u : Value) : DStep w (w1.setCell ⟨B, k, none⟩ u) B v v' :=
  ⟨h.os, h.tape, h.output, by simpa [World.setCell] using h.size, fun i hi h1 h2 => (Below.heap_setCell w1 ⟨B, k, none⟩ u i h1).trans (h.block i hi h1 h2), h.row⟩
theorem DStep.refl (w : World) (B : Nat) (v : Value) : DStep w w B v v := ⟨rfl, rfl, rfl, Nat.le_refl _, fun _ _ _ _ => rfl, .inl rfl⟩

theorem sync_is {w : World} {base B : Nat} {v : Value} {xs : List Int} {s m : Int} (h : DiskS w base B v xs s m) : Calls Try.prog 32 #[.pointer (some ⟨B, 0, none⟩)] w fun e w' => e = .returned (.int .i64 0) ∧ DiskS w' base B v xs (xs.length : Int) m ∧ DStep w w' B v v := by
  obtain ⟨A, c, rfl, hc⟩ := h.row.len
  have c0 := h.cells.c0
  have c1 := h.cells.c1
  have f1 := h.cells.f 1
  have H := Lib.hid h
  clear h
  go_enter Try.func32, Try.ntmps32
  go_wp2_with (go_at_call 99; refine H.out.none.mono ?_; rintro e w' ⟨rfl, rfl⟩)
  go_ret
  have h := H.out
  refine ⟨rfl, { h with cells := h.cells.put1 _, row := h.row.move fun k hk => Below.heap_setCell _ _ _ _ fun e => h.cells.apart h.row (by rw [hk, e]), s0 := by omega, s1 := by omega }, (DStep.refl _ _ _).put _ _⟩

/-- Append: there is room; there is none. -/
theorem append_is {w : World} {base B : Nat} {v : Value} {xs ys : List Int} {s m : Int} (h : DiskS w base B v xs s m) (A : Option Addr) (c : Nat) (HR : Kd.C (Kd.int .u8) w A ys.length ys) (hroom : (ys.length : Int) ≤ m - (xs.length : Int)) : Calls Try.prog 29 #[.pointer (some ⟨B, 0, none⟩), .slice A ys.length c] w fun e w' => e = .returned (.int .i64 0) ∧ ∃ v', DiskS w' base B v' (xs ++ ys) s m ∧ DStep w w' B v v' := by
  obtain ⟨A', c', rfl, hc⟩ := h.row.len
  have c0 := h.cells.c0
  have c2 := h.cells.c2
  have m0 := h.m0
  have m1 := h.m1
  have hl := h.len
  have H := Lib.hid h
  have HC := Lib.hid HR
  clear h HR
  go_enter Try.func29, Try.ntmps29
  go_wp2_with (go_at_call 99; refine H.out.none.mono ?_; rintro e w' ⟨rfl, rfl⟩)
  go_quiet (fail)
  go_wp2_with (at_builtin; refine DRow.append_ev (w := w.drewN nq) (H.out.row.move fun k hk => rfl) (Kd.C_below HC.out ⟨rfl, rfl, rfl, Nat.le_refl _, fun _ _ => rfl⟩) rfl _ _ rfl rfl rfl (Nat.le_of_lt (Nat.lt_of_le_of_lt H.out.at_ H.out.cells.lt)) (by omega) ?_; intro v1 w1 hd hg hat; obtain ⟨A1, c1, rfl, hc1⟩ := hd.len; have hD : DiskAt w1 B (.slice A' xs.length c') s m true := H.out.cells.move (hg.block B H.out.cells.lt (H.out.cells.apart H.out.row)); have k0 := hD.c0; have g0 := hD.f 0; have HD := Lib.hid hD; have HR := Lib.hid hd; have HG := Lib.hid hg; have HAT := Lib.hid hat; clear hD hd hg hat)
  go_ret
  have h := H.out
  have hd := HR.out
  have hg := HG.out
  rw [← List.length_append]
  refine ⟨rfl, _, ⟨HD.out.put0 _, hd.move fun k hk => Below.heap_setCell _ _ _ _ fun e => HD.out.apart hd (by rw [hk, e]), h.at_, m0, m1, by rw [List.length_append]; omega, h.s0, by have := h.s1; rw [List.length_append]; omega⟩, DStep.put (w := w) ⟨hg.os, hg.tape, hg.output, hg.size, fun k hk _ h2 => hg.block k hk h2, HAT.out⟩ _ _⟩
theorem append_full {w : World} {base B : Nat} {v : Value} {xs : List Int} {s m : Int} (h : DiskS w base B v xs s m) (A : Option Addr) (l c : Nat) (hl63 : l ≤ 9223372036854775807) (hroom : ¬ ((l : Int) ≤ m - (xs.length : Int))) : Calls Try.prog 29 #[.pointer (some ⟨B, 0, none⟩), .slice A l c] w fun e w' => e = .returned (.int .i64 12) ∧ ∃ n, w' = w.drewN n := by
  obtain ⟨A', c', rfl, hc⟩ := h.row.len
  have c0 := h.cells.c0
  have c2 := h.cells.c2
  have m0 := h.m0
  have m1 := h.m1
  have hl := h.len
  have H := Lib.hid h
  clear h
  go_enter Try.func29, Try.ntmps29
  go_wp2_with (go_at_call 99; refine H.out.none.mono ?_; rintro e w' ⟨rfl, rfl⟩)
  go_quiet (fail)
  go_wp2
  go_ret
  exact ⟨rfl, _, rfl⟩

/-! ### Cuts -/
theorem DRow.keep {w : World} {base : Nat} {A : Option Addr} {c n : Nat} {xs : List Int} (h : DRow w base (.slice A xs.length c) xs) (hn : n ≤ xs.length) : DRow w base (.slice A n n) (xs.take n) := by
  rcases h with ⟨h, rfl⟩ | ⟨g, cap, cur, e, h1, h2, h3, h4, h5, h6⟩
  · cases h
    obtain rfl : n = 0 := by simpa using hn
    exact .inl ⟨rfl, rfl⟩
  · cases e
    have hl : (xs.take n).length = n := by rw [List.length_take]; omega
    refine .inr ⟨g, n, cur, by rw [hl], h1, h2, by omega, by omega, by omega, ?_⟩
    rw [hl]
    have := congrArg (List.take n) h6
    rw [List.take_take, Nat.min_eq_left hn] at this
    rw [this]
    simp [encs, List.map_take]
theorem keep_is {w : World} {base B : Nat} {v : Value} {xs : List Int} {s m : Int} (h : DiskS w base B v xs s m) (n : Nat) (hn : n ≤ xs.length) : Calls Try.prog 100 #[.pointer (some ⟨B, 0, none⟩), .int .i64 n] w fun e w' => e = .returned (.tuple #[]) ∧ ∃ v', DiskS w' base B v' (xs.take n) n m ∧ DStep w w' B v v' := by
  obtain ⟨A, c, rfl, hc⟩ := h.row.len
  have c0 := h.cells.c0
  have f0 := h.cells.f 0
  have f1 := h.cells.f 1
  have c1 := h.cells.c1
  have m0 := h.m0
  have m1 := h.m1
  have hl := h.len
  have H := Lib.hid h
  clear h
  go_enter Try.func100, Try.ntmps100
  go_wp2
  have h := H.out
  have hr := h.row.keep hn
  have hap : ∀ k, Value.ownBlock (.slice A n n) = some k → k ≠ B := fun k hk e => h.cells.apart h.row (by rw [← e, ← hk]; cases A <;> rfl)
  go_end0
  refine ⟨rfl, _, ⟨(h.cells.put0 _).put1 _, (hr.move fun k hk => Below.heap_setCell _ _ _ _ (hap k hk)).move fun k hk => Below.heap_setCell _ _ _ _ (hap k hk), h.at_, m0, m1, by rw [List.length_take]; omega, by omega, by rw [List.length_take]; omega⟩, (DStep.put ⟨rfl, rfl, rfl, Nat.le_refl _, fun _ _ _ _ => rfl, .inl (by cases A <;> rfl)⟩ _ _).put _ _⟩

theorem cut_is {w : World} {base B : Nat} {v : Value} {xs : List Int} {s m : Int} (h : DiskS w base B v xs s m) (n : Nat) (hn : n ≤ xs.length) : Calls Try.prog 35 #[.pointer (some ⟨B, 0, none⟩), .int .i64 n] w fun e w' => e = .returned (.int .i64 0) ∧ ∃ v', DiskS w' base B v' (xs.take n) n m ∧ DStep w w' B v v' := by
  obtain ⟨A, c, rfl, hc⟩ := h.row.len
  have c0 := h.cells.c0
  have m0 := h.m0
  have m1 := h.m1
  have hl := h.len
  have H := Lib.hid h
  clear h
  go_enter Try.func35, Try.ntmps35
  go_wp2_with (first
    | (go_at_call 99; refine H.out.none.mono ?_; rintro e w' ⟨rfl, rfl⟩)
    | (go_at_call 100; refine (keep_is H.out n hn).mono ?_; rintro e w1 ⟨rfl, v1, hk, hs⟩; have HK := Lib.hid hk; have HS := Lib.hid hs; clear hk hs))
  go_ret
  exact ⟨rfl, v1, HK.out, HS.out⟩
theorem cut_bad {w : World} {base B : Nat} {v : Value} {xs : List Int} {s m : Int} (h : DiskS w base B v xs s m) (n : Int) (hn : n < 0 ∨ (xs.length : Int) < n) : Calls Try.prog 35 #[.pointer (some ⟨B, 0, none⟩), .int .i64 n] w fun e w' => e = .returned (.int .i64 1) ∧ w = w' := by
  obtain ⟨A, c, rfl, hc⟩ := h.row.len
  have c0 := h.cells.c0
  have H := Lib.hid h
  clear h
  go_enter Try.func35, Try.ntmps35
  go_wp2_with (first
    | (go_at_call 99; refine H.out.none.mono ?_; rintro e w' ⟨rfl, rfl⟩))
  all_goals (go_ret; exact ⟨rfl, rfl⟩)

/-- Crash. -/
theorem crash_is {w : World} {base B : Nat} {v : Value} {xs : List Int} {s m : Int} (h : DiskS w base B v xs s m) (k : Int) (hk0 : 0 ≤ k) (hk1 : k ≤ 9223372036854775807) (n : Nat) (hn : (n : Int) = s + min k ((xs.length : Int) - s)) : Calls Try.prog 33 #[.pointer (some ⟨B, 0, none⟩), .int .i64 k] w fun e w' => e = .returned (.int .i64 0) ∧ ∃ v', DiskS w' base B v' (xs.take n) n m ∧ DStep w w' B v v' := by
  have HN := Lib.hid hn
  clear hn
  obtain ⟨A, c, rfl, hc⟩ := h.row.len
  have c0 := h.cells.c0
  have c1 := h.cells.c1
  have m0 := h.m0
  have m1 := h.m1
  have hl := h.len
  have s0 := h.s0
  have s1 := h.s1
  have H := Lib.hid h
  clear h
  go_enter Try.func33, Try.ntmps33
  go_wp2_with (go_at_call 99; refine H.out.none.mono ?_; rintro e w' ⟨rfl, rfl⟩)
  go_still_tail 18, (by kernel_rfl)
  repeat still_step
  have e1 : IntKind.i64.wrap ((xs.length : Int) - s) = (xs.length : Int) - s := by rw [IntKind.wrap_i64]; omega
  have hn := HN.out
  have e2 : IntKind.i64.wrap (s + if (xs.length : Int) - s < k then (xs.length : Int) - s else k) = (n : Int) := by
    rw [IntKind.wrap_i64]
    split <;> omega
  have hnl : n ≤ xs.length := by omega
  rw [e1, e2]
  clear e1 e2 hn
  change wpList _ _ _ _ _ w.drew
  have H2 : Hid (DiskS w.drew base B (.slice A xs.length c) xs s m) := Lib.hid (H.out.below (Below.refl _ _).drew (Nat.le_refl _))
  have HF : Hid (∀ w' v', DStep w.drew w' B (.slice A xs.length c) v' → DStep w w' B (.slice A xs.length c) v') := Lib.hid fun w' v' h => ⟨h.os, h.tape, h.output, h.size, h.block, h.row⟩
  clear c0 c1
  generalize w.drew = w2 at *
  go_wp2_with (go_at_call 100; refine (keep_is H2.out n hnl).mono ?_; rintro e w1 ⟨rfl, v1, hk, hs⟩; have HK := Lib.hid hk; have HS := Lib.hid hs; clear hk hs)
  all_goals (go_ret; exact ⟨rfl, v1, HK.out, HF.out _ _ HS.out⟩)
theorem crash_bad {w : World} {base B : Nat} {v : Value} {xs : List Int} {s m : Int} (h : DiskS w base B v xs s m) (k : Int) (hk0 : k < 0) : Calls Try.prog 33 #[.pointer (some ⟨B, 0, none⟩), .int .i64 k] w fun e w' => e = .returned (.int .i64 1) ∧ w = w' := by
  have H := Lib.hid h
  clear h
  go_enter Try.func33, Try.ntmps33
  go_wp2_with (go_at_call 99; refine H.out.none.mono ?_; rintro e w' ⟨rfl, rfl⟩)
  go_ret
  exact ⟨rfl, rfl⟩

/-! ### Bytes, Copy -/
theorem bytes_is {w : World} {base B : Nat} {v : Value} {xs : List Int} {s m : Int} (h : DiskS w base B v xs s m) : Calls Try.prog 38 #[.pointer (some ⟨B, 0, none⟩)] w fun e w' => ∃ u, e = .returned u ∧ Kd.R (Kd.int .u8) 5 w' w.heap.size (fun _ => True) u xs ∧ Below w.heap.size w w' := by
  obtain ⟨A, c, rfl, hc⟩ := h.row.len
  have c0 := h.cells.c0
  have m1 := h.m1
  have hl := h.len
  have H := Lib.hid h
  clear h
  go_enter Try.func38, Try.ntmps38
  go_wp2_with (first
    | (go_at_call 99; refine H.out.none.mono ?_; rintro e w' ⟨rfl, rfl⟩)
    | (refine Kd.R_make (Kd.int .u8) (w0 := w) w.heap.size 5 rfl rfl 27 _ _ rfl (xs.length : Int) rfl rfl (by kernel_rfl) (.int .u8 0) 1 (by kernel_rfl) rfl (by decide) (by decide) 0 (okp := fun _ => True) (ok := fun _ => True) rfl (fun _ _ => trivial) trivial (by omega) (by omega) (Below.refl _ _) (Nat.le_refl _) ?_; intro v1 w1 hr hb hg ho; rw [Int.toNat_natCast] at hr; obtain ⟨A1, c1, hv1, hc1, _⟩ := Kd.R_reads hr; rw [List.length_replicate] at hv1 hc1; subst hv1; have hD : DiskS w1 base B (.slice A xs.length c) xs s m := H.out.below hb (Nat.le_refl _); have k0 := hD.cells.c0; have HD := Lib.hid hD; have HR := Lib.hid hr; have HB := Lib.hid hb; clear hD hr hb hg ho)
    | (refine Kd.R_copy (enc := Value.int .u8) (h1 := fun _ => rfl) (d := (0 : Int)) (w0 := w) w.heap.size rfl _ _ 27 27 5 rfl (by kernel_rfl) (by kernel_rfl) _ _ xs A xs.length c (fun _ => True) rfl rfl HR.out HD.out.row.C.2 HB.out HB.out.size ?_; intro w2 hr2 hb2 hg2; have HR2 := Lib.hid hr2; have HB2 := Lib.hid hb2; clear hr2 hb2 hg2))
  go_ret
  have hr := HR2.out
  have e : xs.take (min xs.length (List.replicate xs.length (0 : Int)).length) ++ (List.replicate xs.length (0 : Int)).drop (min xs.length (List.replicate xs.length (0 : Int)).length) = xs := by simp
  rw [e] at hr
  exact ⟨_, rfl, hr, HB2.out⟩

end Go.Proofs.Ytmbnjgnmblgjoaa.Man
