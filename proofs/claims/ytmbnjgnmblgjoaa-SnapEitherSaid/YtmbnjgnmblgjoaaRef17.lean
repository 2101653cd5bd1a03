/- The reference's disk (layer 17), act by act: what each comes to on a disk that was made. -/
import Derived.Test.YtmbnjgnmblgjoaaDiskAwake
namespace Go.Proofs.Ytmbnjgnmblgjoaa.Man
open Go.RowKit Go.Proofs.YtmbnjgnmblgjoaaW.PrintWords Go.Proofs.YtmbnjgnmblgjoaaW.PrintLast
set_option linter.unusedVariables false
set_option linter.unusedSimpArgs false
set_option maxRecDepth 100000

/-- The reference's disk in block B. -/
def RefAt (w : World) (B : Nat) (v : Value) (s m : Int) : Prop := w.heap[B]? = some (.cells #[v, .int .i64 s, .int .i64 m] 57 (0, 0))
theorem RefAt.c0 {w : World} {B : Nat} {v : Value} {s m : Int} (h : RefAt w B v s m) : w.cell? ⟨B, 0, none⟩ = some v := by simp [World.cell?, show w.heap[B]? = _ from h]
theorem RefAt.c1 {w : World} {B : Nat} {v : Value} {s m : Int} (h : RefAt w B v s m) : w.cell? ⟨B, 1, none⟩ = some (.int .i64 s) := by simp [World.cell?, show w.heap[B]? = _ from h]
theorem RefAt.c2 {w : World} {B : Nat} {v : Value} {s m : Int} (h : RefAt w B v s m) : w.cell? ⟨B, 2, none⟩ = some (.int .i64 m) := by simp [World.cell?, show w.heap[B]? = _ from h]
theorem RefAt.lt {w : World} {B : Nat} {v : Value} {s m : Int} (h : RefAt w B v s m) : B < w.heap.size := (Array.getElem?_eq_some_iff.1 h).1
theorem RefAt.f {w : World} {B : Nat} {v : Value} {s m : Int} (h : RefAt w B v s m) (k : Nat) : w.frozen? ⟨B, k, none⟩ = false := by simp [World.frozen?, show w.heap[B]? = _ from h]
theorem RefAt.put0 {w : World} {B : Nat} {v : Value} {s m : Int} (h : RefAt w B v s m) (v' : Value) : RefAt (w.setCell ⟨B, 0, none⟩ v') B v' s m := by
  unfold RefAt World.setCell
  simp [Array.getElem?_modify, show w.heap[B]? = _ from h]
theorem RefAt.put1 {w : World} {B : Nat} {v : Value} {s m : Int} (h : RefAt w B v s m) (s' : Int) : RefAt (w.setCell ⟨B, 1, none⟩ (.int .i64 s')) B v s' m := by
  unfold RefAt World.setCell
  simp [Array.getElem?_modify, show w.heap[B]? = _ from h]
theorem RefAt.move {w w1 : World} {B : Nat} {v : Value} {s m : Int} (h : RefAt w B v s m) (hm : w1.heap[B]? = w.heap[B]?) : RefAt w1 B v s m := hm.trans h
theorem RefAt.apart {w : World} {B base : Nat} {v u : Value} {s m : Int} {xs : List Int} (h : RefAt w B v s m) (hr : DRow w base u xs) : some B ≠ u.ownBlock := by
  intro e
  obtain ⟨_, _, cur, hc⟩ := hr.block e.symm
  rw [show w.heap[B]? = _ from h] at hc
  cases hc

structure RefS (w : World) (base B : Nat) (v : Value) (xs : List Int) (s m : Int) : Prop where
  cells : RefAt w B v s m
  row : DRow w base v xs
  at_ : base ≤ B
  m0 : 0 ≤ m
  m1 : m ≤ 262144
  len : (xs.length : Int) ≤ m
  s0 : 0 ≤ s
  s1 : s ≤ (xs.length : Int)
theorem DStep.belowR {w w' : World} {base B : Nat} {v v' : Value} {xs : List Int} {s m : Int} (h : DStep w w' B v v') (hd : RefS w base B v xs s m) : Below base w w' :=
  ⟨h.os, h.tape, h.output, h.size, fun k hk => h.block k (by have := hd.cells.lt; have := hd.at_; omega) (by have := hd.at_; omega) (fun e => by have := (hd.row.block e.symm).1; omega)⟩
theorem RefS.below {w w1 : World} {base B n : Nat} {v : Value} {xs : List Int} {s m : Int} (h : RefS w base B v xs s m) (hb : Below n w w1) (hn : w.heap.size ≤ n) : RefS w1 base B v xs s m :=
  { h with cells := h.cells.move (hb.block _ (by have := h.cells.lt; omega)), row := h.row.move fun k hk => hb.block _ (by have := (h.row.block hk).2.1; omega) }

/-- New: an empty one; none. -/
theorem refNew_is (n : Int) (w : World) (base : Nat) (hb : base ≤ w.heap.size) (h0 : 0 ≤ n) (h1 : n ≤ 262144) : Calls Try.prog 27 #[.int .i64 n] w fun e w' => e = .returned (.tuple #[.pointer (some ⟨w.heap.size, 0, none⟩), .int .i64 0]) ∧ RefS w' base w.heap.size (.slice none 0 0) [] 0 n ∧ Below w.heap.size w w' := by
  go_enter Try.func27, Try.ntmps27
  go_wp2
  go_ret2
  exact ⟨rfl, ⟨World.alloc_heap_new w _, DRow.nil _ _, hb, h0, h1, h0, by omega, by simp⟩, (Below.refl _ _).alloc (Nat.le_refl _) _⟩
theorem refNew_bad (n : Int) (w : World) (hn : n < 0 ∨ 262144 < n) : Calls Try.prog 27 #[.int .i64 n] w fun e w' => e = .returned (.tuple #[.pointer none, .int .i64 1]) ∧ w = w' := by
  rcases hn with hn | hn
  · go_enter Try.func27, Try.ntmps27
    go_wp2
    go_ret2
    exact ⟨rfl, rfl⟩
  · have h0 : ¬ n < 0 := by omega
    go_enter Try.func27, Try.ntmps27
    go_wp2
    go_ret2
    exact ⟨rfl, rfl⟩
theorem new_bad (n : Int) (w : World) (hn : n < 0 ∨ 262144 < n) : Calls Try.prog 26 #[.int .i64 n] w fun e w' => e = .returned (.tuple #[.pointer none, .int .i64 1]) ∧ w = w' := by
  rcases hn with hn | hn
  · go_enter Try.func26, Try.ntmps26
    go_wp2
    go_ret2
    exact ⟨rfl, rfl⟩
  · have h0 : ¬ n < 0 := by omega
    go_enter Try.func26, Try.ntmps26
    go_wp2
    go_ret2
    exact ⟨rfl, rfl⟩

theorem refSync_is {w : World} {base B : Nat} {v : Value} {xs : List Int} {s m : Int} (h : RefS w base B v xs s m) : Calls Try.prog 31 #[.pointer (some ⟨B, 0, none⟩)] w fun e w' => e = .returned (.tuple #[]) ∧ RefS w' base B v xs (xs.length : Int) m ∧ DStep w w' B v v := by
  obtain ⟨A, c, rfl, hc⟩ := h.row.len
  have c0 := h.cells.c0
  have c1 := h.cells.c1
  have f1 := h.cells.f 1
  have H := Lib.hid h
  clear h
  go_enter Try.func31, Try.ntmps31
  go_wp2
  go_end0
  have h := H.out
  refine ⟨rfl, { h with cells := h.cells.put1 _, row := h.row.move fun k hk => Below.heap_setCell _ _ _ _ fun e => h.cells.apart h.row (by rw [hk, e]), s0 := by omega, s1 := by omega }, (DStep.refl _ _ _).put _ _⟩

theorem DRow.empty (W : World) (base : Nat) (hb : base ≤ W.heap.size) : DRow (W.alloc (.cells #[] 5)) base (.slice (some ⟨W.heap.size, 0, none⟩) 0 0) [] :=
  .inr ⟨_, 0, #[], rfl, hb, World.alloc_heap_new W _, by simp, by simp, by decide, rfl⟩

/-- Append: there is room; there is none. -/
theorem refAppend_is {w : World} {base B : Nat} {v : Value} {xs ys : List Int} {s m : Int} (h : RefS w base B v xs s m) (A : Option Addr) (c : Nat) (HR : Kd.C (Kd.int .u8) w A ys.length ys) (hroom : (ys.length : Int) ≤ m - (xs.length : Int)) : Calls Try.prog 30 #[.pointer (some ⟨B, 0, none⟩), .slice A ys.length c] w fun e w' => e = .returned (.int .i64 0) ∧ ∃ v', RefS w' base B v' (xs ++ ys) s m ∧ DStep w w' B v v' := by
  obtain ⟨A', c', rfl, hc⟩ := h.row.len
  have c0 := h.cells.c0
  have c2 := h.cells.c2
  have m0 := h.m0
  have m1 := h.m1
  have hl := h.len
  have H := Lib.hid h
  have HC := Lib.hid HR
  clear h HR
  go_enter Try.func30, Try.ntmps30
  go_wp2
  go_quiet (fail)
  have H1 : Hid (RefS (w.drewN nq) base B (.slice A' xs.length c') xs s m) := Lib.hid (H.out.below (pw_below_drewN (Below.refl _ _) nq) (Nat.le_refl _))
  have HC1 : Hid (Kd.C (Kd.int .u8) (w.drewN nq) A ys.length ys) := Lib.hid (Kd.C_below HC.out (pw_below_drewN (Below.refl _ _) nq))
  have HF : Hid (∀ w' v', DStep (w.drewN nq) w' B (.slice A' xs.length c') v' → DStep w w' B (.slice A' xs.length c') v') := Lib.hid fun w' v' h => ⟨h.os, h.tape, h.output, h.size, h.block, h.row⟩
  clear c0 c2 H HC
  generalize w.drewN nq = w1 at *
  have c0 := H1.out.cells.c0
  have hlt := H1.out.cells.lt
  have hbe : Below w1.heap.size w1 (w1.alloc (.cells #[] 5)) := (Below.refl _ _).alloc (Nat.le_refl _) _
  have a0 : (w1.alloc (.cells #[] 5)).cell? ⟨B, 0, none⟩ = some (.slice A' xs.length c') := (hbe.cell (p := ⟨B, 0, none⟩) hlt).trans c0
  have HE := Lib.hid hbe
  clear hbe c0
  go_wp2_with (first
    | (at_builtin; refine DRow.append_ev (w := w1.alloc (.cells #[] 5)) (DRow.empty w1 w1.heap.size (Nat.le_refl _)) (ys := xs) (c := c') ((H1.out.below HE.out (Nat.le_refl _)).row.C.2) rfl (.tmp 19) (.tmp 23) rfl rfl rfl HE.out.size (by simp only [List.length_nil]; omega) ?_; intro v1 w2 hd hg hat; rw [List.nil_append] at hd; have HB2 := Lib.hid (HE.out.grown hg HE.out.size (fun k e => by cases e; exact Nat.le_refl _)); obtain ⟨A1, k1, rfl, hk1⟩ := hd.len; have HO2 : Hid (∃ b, Value.ownBlock (.slice A1 xs.length k1) = some b ∧ w1.heap.size ≤ b) := Lib.hid (by rcases hat with e | ⟨b, e, hb⟩; exact ⟨_, e, Nat.le_refl _⟩; exact ⟨b, e, Nat.le_trans HE.out.size hb⟩); have HD2 := Lib.hid hd; clear hd hg hat hk1)
    | (at_builtin; refine DRow.append_ev (w := w2) HD2.out (ys := ys) (c := c) (Kd.C_below HC1.out HB2.out) rfl (.tmp 24) (.tmp 25) rfl rfl rfl HB2.out.size (by omega) ?_; intro v2 w3 hd hg hat; have HB3 := Lib.hid (HB2.out.grown hg HB2.out.size (fun k e => (HD2.out.block e).1)); obtain ⟨A2, k2, rfl, hk2⟩ := hd.len; have h3 := H1.out.cells.move (HB3.out.block B hlt); have k0 := h3.c0; have g0 := h3.f 0; have HX := Lib.hid h3; have HD3 := Lib.hid hd; have HO3 : Hid (∃ b, Value.ownBlock (.slice A2 (xs ++ ys).length k2) = some b ∧ w1.heap.size ≤ b) := Lib.hid (by rcases hat with e | ⟨b, e, hb⟩; rw [e]; exact HO2.out; exact ⟨b, e, Nat.le_trans HB2.out.size hb⟩); clear hd hg hat hk2 h3))
  go_ret
  have hd := HD3.out
  have h := H1.out
  rw [← List.length_append]
  have e3 : ∀ k, Value.ownBlock (.slice A2 (xs ++ ys).length k2) = some k → k ≠ B := fun k hk e => HX.out.apart hd (by rw [hk, e])
  have hge : ∀ k, Value.ownBlock (.slice A2 (xs ++ ys).length k2) = some k → w1.heap.size ≤ k := fun k hk => (hd.block hk).1
  refine ⟨rfl, _, ⟨HX.out.put0 _, ((hd.move fun k hk => Below.heap_setCell _ _ _ _ (e3 k hk)).lower (Nat.le_of_lt (Nat.lt_of_le_of_lt h.at_ hlt))), h.at_, m0, m1, by rw [List.length_append]; omega, h.s0, by have := h.s1; rw [List.length_append]; omega⟩, HF.out _ _ (DStep.put ⟨HB3.out.os, HB3.out.tape, HB3.out.output, HB3.out.size, fun k hk _ _ => HB3.out.block k hk, .inr HO3.out⟩ _ _)⟩
theorem refAppend_full {w : World} {base B : Nat} {v : Value} {xs : List Int} {s m : Int} (h : RefS w base B v xs s m) (A : Option Addr) (l c : Nat) (hl63 : l ≤ 9223372036854775807) (hroom : ¬ ((l : Int) ≤ m - (xs.length : Int))) : Calls Try.prog 30 #[.pointer (some ⟨B, 0, none⟩), .slice A l c] w fun e w' => e = .returned (.int .i64 12) ∧ ∃ n, w' = w.drewN n := by
  obtain ⟨A', c', rfl, hc⟩ := h.row.len
  have c0 := h.cells.c0
  have c2 := h.cells.c2
  have m0 := h.m0
  have m1 := h.m1
  have hl := h.len
  clear h
  go_enter Try.func30, Try.ntmps30
  go_wp2
  go_quiet (fail)
  go_wp2
  go_ret
  exact ⟨rfl, _, rfl⟩

/-- A row's first ones are read. -/
theorem DRow.C_take {w : World} {base : Nat} {A : Option Addr} {c n : Nat} {xs : List Int} (h : DRow w base (.slice A xs.length c) xs) (hn : n ≤ xs.length) : Kd.C (Kd.int .u8) w A n (xs.take n) := (h.keep hn).C.2

theorem refCut_is {w : World} {base B : Nat} {v : Value} {xs : List Int} {s m : Int} (h : RefS w base B v xs s m) (n : Nat) (hn : n ≤ xs.length) : Calls Try.prog 36 #[.pointer (some ⟨B, 0, none⟩), .int .i64 n] w fun e w' => e = .returned (.int .i64 0) ∧ ∃ v', RefS w' base B v' (xs.take n) n m ∧ DStep w w' B v v' := by
  obtain ⟨A', c', rfl, hc⟩ := h.row.len
  have c0 := h.cells.c0
  have m0 := h.m0
  have m1 := h.m1
  have hl := h.len
  have hlt := h.cells.lt
  have hbe : Below w.heap.size w (w.alloc (.cells #[] 5)) := (Below.refl _ _).alloc (Nat.le_refl _) _
  have a0 : (w.alloc (.cells #[] 5)).cell? ⟨B, 0, none⟩ = some (.slice A' xs.length c') := (hbe.cell (p := ⟨B, 0, none⟩) hlt).trans c0
  have HE := Lib.hid hbe
  have H := Lib.hid h
  have hnc : n ≤ c' := Nat.le_trans hn hc
  have hn63 : n ≤ 9223372036854775807 := by omega
  clear h hbe
  have HT : Hid (Kd.C (Kd.int .u8) w A' (xs.take n).length (xs.take n)) := Lib.hid (by have := H.out.row.C_take hn; rwa [List.length_take, Nat.min_eq_left hn])
  have hlt2 : (xs.take n).length = n := by rw [List.length_take]; omega
  obtain ⟨zs, hzs⟩ : ∃ zs, xs.take n = zs := ⟨_, rfl⟩
  rw [hzs] at HT hlt2 ⊢
  subst hlt2
  have HZ := Lib.hid hzs
  clear hzs
  go_enter Try.func36, Try.ntmps36
  go_wp2_with (at_builtin; refine DRow.append_ev (w := w.alloc (.cells #[] 5)) (DRow.empty w w.heap.size (Nat.le_refl _)) (ys := zs) (c := c') (Kd.C_below HT.out HE.out) rfl (.tmp 17) (.tmp 23) rfl rfl rfl HE.out.size (by simp only [List.length_nil]; omega) ?_; intro v1 w2 hd hg hat; rw [List.nil_append] at hd; have HB2 := Lib.hid (HE.out.grown hg HE.out.size (fun k e => by cases e; exact Nat.le_refl _)); obtain ⟨A1, k1, rfl, hk1⟩ := hd.len; have HO2 : Hid (∃ b, Value.ownBlock (.slice A1 zs.length k1) = some b ∧ w.heap.size ≤ b) := Lib.hid (by rcases hat with e | ⟨b, e, hb⟩; exact ⟨_, e, Nat.le_refl _⟩; exact ⟨b, e, Nat.le_trans HE.out.size hb⟩); have h3 := H.out.cells.move (HB2.out.block B hlt); have k0 := h3.c0; have g0 := h3.f 0; have k1' := h3.c1; have g1 := h3.f 1; have HX := Lib.hid h3; have HD2 := Lib.hid hd; clear hd hg hat hk1 h3)
  go_ret
  have hd := HD2.out
  have h := H.out
  have e3 : ∀ k, Value.ownBlock (.slice A1 zs.length k1) = some k → k ≠ B := fun k hk e => HX.out.apart hd (by rw [hk, e])
  refine ⟨rfl, _, ⟨(HX.out.put0 _).put1 _, (((hd.move fun k hk => Below.heap_setCell _ _ _ _ (e3 k hk)).move fun k hk => Below.heap_setCell _ _ _ _ (e3 k hk)).lower (Nat.le_of_lt (Nat.lt_of_le_of_lt h.at_ hlt))), h.at_, m0, m1, by omega, by omega, by omega⟩, DStep.put (DStep.put (w := w) ⟨HB2.out.os, HB2.out.tape, HB2.out.output, HB2.out.size, fun k hk _ _ => HB2.out.block k hk, .inr HO2.out⟩ _ _) _ _⟩
theorem refCut_bad {w : World} {base B : Nat} {v : Value} {xs : List Int} {s m : Int} (h : RefS w base B v xs s m) (n : Int) (hn : n < 0 ∨ (xs.length : Int) < n) : Calls Try.prog 36 #[.pointer (some ⟨B, 0, none⟩), .int .i64 n] w fun e w' => e = .returned (.int .i64 1) ∧ w = w' := by
  obtain ⟨A, c, rfl, hc⟩ := h.row.len
  have c0 := h.cells.c0
  clear h
  rcases hn with hn | hn
  · go_enter Try.func36, Try.ntmps36
    go_wp2
    go_ret
    exact ⟨rfl, rfl⟩
  · have h0 : ¬ n < 0 := by omega
    go_enter Try.func36, Try.ntmps36
    go_wp2
    go_ret
    exact ⟨rfl, rfl⟩
theorem refCrash_bad {w : World} (B : Nat) (k : Int) (hk0 : k < 0) : Calls Try.prog 34 #[.pointer (some ⟨B, 0, none⟩), .int .i64 k] w fun e w' => e = .returned (.int .i64 1) ∧ w = w' := by
  go_enter Try.func34, Try.ntmps34
  go_wp2
  go_ret
  exact ⟨rfl, rfl⟩
theorem refCrash_is {w : World} {base B : Nat} {v : Value} {xs : List Int} {s m : Int} (h : RefS w base B v xs s m) (k : Int) (hk0 : 0 ≤ k) (hk1 : k ≤ 9223372036854775807) (n : Nat) (hn : (n : Int) = s + min k ((xs.length : Int) - s)) : Calls Try.prog 34 #[.pointer (some ⟨B, 0, none⟩), .int .i64 k] w fun e w' => e = .returned (.int .i64 0) ∧ ∃ v', RefS w' base B v' (xs.take n) n m ∧ DStep w w' B v v' := by
  obtain ⟨A', c', rfl, hc⟩ := h.row.len
  have c0 := h.cells.c0
  have c1 := h.cells.c1
  have m0 := h.m0
  have m1 := h.m1
  have hl := h.len
  have s0 := h.s0
  have s1 := h.s1
  have hnx : n ≤ xs.length := by omega
  have HT0 : Kd.C (Kd.int .u8) w A' (xs.take n).length (xs.take n) := by have := h.row.C_take hnx; rwa [List.length_take, Nat.min_eq_left hnx]
  have hlt2 : (xs.take n).length = n := by rw [List.length_take]; omega
  obtain ⟨zs, hzs⟩ : ∃ zs, xs.take n = zs := ⟨_, rfl⟩
  rw [hzs] at HT0 hlt2 ⊢
  subst hlt2
  have HZ := Lib.hid hzs
  have HN := Lib.hid hn
  have H := Lib.hid h
  have HT1 := Lib.hid HT0
  clear h hn hzs HT0
  go_enter Try.func34, Try.ntmps34
  go_wp2
  go_quiet (fail)
  have e2 : (s + if (xs.length : Int) - s < k then (xs.length : Int) - s else k) = (zs.length : Int) := by
    have := HN.out
    split <;> omega
  rw [e2]
  clear e2 c0 c1
  have H2 : Hid (RefS (w.drewN nq) base B (.slice A' xs.length c') xs s m) := Lib.hid (H.out.below (pw_below_drewN (Below.refl _ _) nq) (Nat.le_refl _))
  have HF : Hid (∀ w' v', DStep (w.drewN nq) w' B (.slice A' xs.length c') v' → DStep w w' B (.slice A' xs.length c') v') := Lib.hid fun w' v' h => ⟨h.os, h.tape, h.output, h.size, h.block, h.row⟩
  have HT : Hid (Kd.C (Kd.int .u8) (w.drewN nq) A' zs.length zs) := Lib.hid (Kd.C_below HT1.out (pw_below_drewN (Below.refl _ _) nq))
  clear H HT1
  generalize w.drewN nq = w1 at *
  have H := H2
  have hlt := H.out.cells.lt
  have hbe : Below w1.heap.size w1 (w1.alloc (.cells #[] 5)) := (Below.refl _ _).alloc (Nat.le_refl _) _
  have a0 : (w1.alloc (.cells #[] 5)).cell? ⟨B, 0, none⟩ = some (.slice A' xs.length c') := (hbe.cell (p := ⟨B, 0, none⟩) hlt).trans H.out.cells.c0
  have HE := Lib.hid hbe
  have hnc : zs.length ≤ c' := Nat.le_trans hnx hc
  have hn63 : zs.length ≤ 9223372036854775807 := by omega
  clear hbe H2
  go_wp2_with (at_builtin; refine DRow.append_ev (w := w1.alloc (.cells #[] 5)) (DRow.empty w1 w1.heap.size (Nat.le_refl _)) (ys := zs) (c := c') (Kd.C_below HT.out HE.out) rfl (.tmp 26) (.tmp 32) rfl rfl rfl HE.out.size (by simp only [List.length_nil]; omega) ?_; intro v1 w2 hd hg hat; rw [List.nil_append] at hd; have HB2 := Lib.hid (HE.out.grown hg HE.out.size (fun k e => by cases e; exact Nat.le_refl _)); obtain ⟨A1, k1, rfl, hk1⟩ := hd.len; have HO2 : Hid (∃ b, Value.ownBlock (.slice A1 zs.length k1) = some b ∧ w1.heap.size ≤ b) := Lib.hid (by rcases hat with e | ⟨b, e, hb⟩; exact ⟨_, e, Nat.le_refl _⟩; exact ⟨b, e, Nat.le_trans HE.out.size hb⟩); have h3 := H.out.cells.move (HB2.out.block B hlt); have k0 := h3.c0; have g0 := h3.f 0; have k1' := h3.c1; have g1 := h3.f 1; have HX := Lib.hid h3; have HD2 := Lib.hid hd; clear hd hg hat hk1 h3)
  all_goals
    go_ret
    have hd := HD2.out
    have h := H.out
    have e3 : ∀ k, Value.ownBlock (.slice A1 zs.length k1) = some k → k ≠ B := fun k hk e => HX.out.apart hd (by rw [hk, e])
    refine ⟨rfl, _, ⟨(HX.out.put0 _).put1 _, (((hd.move fun k hk => Below.heap_setCell _ _ _ _ (e3 k hk)).move fun k hk => Below.heap_setCell _ _ _ _ (e3 k hk)).lower (Nat.le_of_lt (Nat.lt_of_le_of_lt h.at_ hlt))), h.at_, m0, m1, by omega, by omega, by omega⟩, HF.out _ _ (DStep.put (DStep.put (w := w1) ⟨HB2.out.os, HB2.out.tape, HB2.out.output, HB2.out.size, fun k hk _ _ => HB2.out.block k hk, .inr HO2.out⟩ _ _) _ _)⟩

end Go.Proofs.Ytmbnjgnmblgjoaa.Man
