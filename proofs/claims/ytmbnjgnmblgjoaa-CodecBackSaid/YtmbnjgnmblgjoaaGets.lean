/- codec.GetDoc, GetEntry of the given program: what they come to, for all bytes. -/
import Derived.Test.YtmbnjgnmblgjoaaRun
namespace Go.Proofs.Ytmbnjgnmblgjoaa.Man
open Go.RowKit Go.Proofs.YtmbnjgnmblgjoaaW.PrintWords Go.Proofs.YtmbnjgnmblgjoaaW.PrintLast Go.Proofs.YtmbnjgnmblgjoaaW.PrintMore
set_option linter.unusedVariables false
set_option linter.unusedSimpArgs false
set_option maxRecDepth 100000

/-- A variable that a closure holds. -/
def RowAt (w : World) (V : Nat) (v : Value) : Prop := w.heap[V]? = some (.cells #[v] 22 (0, 0))
theorem RowAt.c0 {w : World} {V : Nat} {v : Value} (k : RowAt w V v) : w.cell? ⟨V, 0, none⟩ = some v := by simp [World.cell?, show w.heap[V]? = _ from k]
theorem RowAt.f {w : World} {V : Nat} {v : Value} (k : RowAt w V v) : w.frozen? ⟨V, 0, none⟩ = false := by simp [World.frozen?, show w.heap[V]? = _ from k]
theorem RowAt.lt {w : World} {V : Nat} {v : Value} (k : RowAt w V v) : V < w.heap.size := (Array.getElem?_eq_some_iff.1 k).1
theorem RowAt.put {w : World} {V : Nat} {v : Value} (k : RowAt w V v) (u : Value) : RowAt (w.setCell ⟨V, 0, none⟩ u) V u := by
  unfold RowAt World.setCell
  simp [Array.getElem?_modify, show w.heap[V]? = _ from k]
theorem heap_set_ne (w : World) (B k j : Nat) (u : Value) (h : j ≠ B) : (w.setCell ⟨B, k, none⟩ u).heap[j]? = w.heap[j]? := Below.heap_setCell w ⟨B, k, none⟩ u j h
theorem TR.C {w : World} {base : Nat} {v : Value} {xs : List K.S111} (h : TR w base v xs) : ∃ A c, v = .slice A xs.length c ∧ xs.length ≤ c ∧ Kd.C K.k111 w A xs.length xs := Kd.R_reads h

set_option maxHeartbeats 8000000 in
theorem getDoc1_err {w0 w : World} {P V c p : Nat} {A : Option Addr} {b : List Int} (hC : Kd.C (Kd.int .u8) w0 A b.length b) (hc : b.length ≤ c) (hB : areBytesN b = true) (hb : Below w0.heap.size w0 w) (hP : w0.heap.size ≤ P) (k : SpotAt w P A c b.length p) (hp : p ≤ b.length) (f : Int) (hres : rdoc (b.drop p) = .error f) :
    Calls Try.prog 124 (#[.agg #[.pointer (some ⟨P, 0, none⟩)]] ++ #[.pointer (some ⟨V, 0, none⟩)]) w fun e w' => e = .panicked (errCh f) ∧ w.grownBy w' (some P) := by
  have hPl := k.lt
  have hbx : Below w.heap.size w (w.alloc (.cells #[.pointer (some ⟨P, 0, none⟩)] 140)) := (Below.refl _ _).alloc (Nat.le_refl _) _
  have hd := sdoc_is hC hc hB (hb.trans (hbx.mono hb.size)) hP (k.below hbx hPl) hp
  rw [hres] at hd
  have HD := Lib.hid hd
  have HX := Lib.hid (grown_of_below hbx (some P))
  clear hC hB hb k hd hres hbx
  show Calls _ _ #[.agg #[.pointer (some ⟨P, 0, none⟩)], .pointer (some ⟨V, 0, none⟩)] _ _
  go_enter Try.func124, Try.ntmps124
  go_wp2_with (go_at_call 125; refine HD.out.mono ?_; rintro e w1 h1; obtain ⟨rfl, hg⟩ := h1.err_inv; have HG := Lib.hid (HX.out.trans hg); clear h1 hg)
  exact ⟨rfl, rfl, HG.out⟩

set_option maxHeartbeats 8000000 in
theorem getDoc1_ok {w0 w : World} {P V c p : Nat} {A : Option Addr} {b : List Int} (hC : Kd.C (Kd.int .u8) w0 A b.length b) (hc : b.length ≤ c) (hB : areBytesN b = true) (hb : Below w0.heap.size w0 w) (hP : w0.heap.size ≤ P) (k : SpotAt w P A c b.length p) (hp : p ≤ b.length) (xs : List K.S111) (r : List Int) (hres : rdoc (b.drop p) = .ok (xs, r))
    {u : Value} (kv : RowAt w V u) (hVP : V ≠ P) :
    Calls Try.prog 124 (#[.agg #[.pointer (some ⟨P, 0, none⟩)]] ++ #[.pointer (some ⟨V, 0, none⟩)]) w fun e w' => e = .returned (.tuple #[]) ∧ ∃ v w2, w' = w2.setCell ⟨V, 0, none⟩ v ∧ TR w2 w.heap.size v xs ∧ SpotAt w2 P A c b.length (b.length - r.length) ∧ w.grownBy w2 (some P) := by
  have hPl := k.lt
  have hbx : Below w.heap.size w (w.alloc (.cells #[.pointer (some ⟨P, 0, none⟩)] 140)) := (Below.refl _ _).alloc (Nat.le_refl _) _
  have hd := sdoc_is hC hc hB (hb.trans (hbx.mono hb.size)) hP (k.below hbx hPl) hp
  rw [hres] at hd
  have HD := Lib.hid hd
  have HX := Lib.hid (grown_of_below hbx (some P))
  have HZ := Lib.hid hbx.size
  have HV := Lib.hid kv
  clear hC hB hb k hd hres hbx kv
  show Calls _ _ #[.agg #[.pointer (some ⟨P, 0, none⟩)], .pointer (some ⟨V, 0, none⟩)] _ _
  go_enter Try.func124, Try.ntmps124
  go_wp2_with (go_at_call 125; refine HD.out.mono ?_; rintro e w1 h1; obtain ⟨v, rfl, ht, hk, hg⟩ := h1.ok_inv; obtain ⟨A1, k1, rfl, _, _⟩ := ht.C; have HT := Lib.hid (Kd.R_lower ht HZ.out); have HK := Lib.hid hk; have HG := Lib.hid (HX.out.trans hg); have hv1 : RowAt w1 V u := (HG.out.block _ HV.out.lt (by intro e; exact hVP (Option.some.inj e))).trans HV.out; have v0 := hv1.c0; have vf := hv1.f; clear h1 ht hk hg hv1)
  go_end0
  exact ⟨rfl, _, w1, rfl, HT.out, HK.out, HG.out⟩

set_option maxHeartbeats 8000000 in
theorem getDoc2_is {w : World} {V base : Nat} {v : Value} {xs : List K.S111} (kv : RowAt w V v) (ht : TR w base v xs) :
    Calls Try.prog 126 #[.pointer (some ⟨V, 0, none⟩)] w fun e w' => e = .returned (.int .i64 (docE xs)) ∧ Below w.heap.size w w' := by
  obtain ⟨A1, k1, rfl, hk1, hC⟩ := ht.C
  have HD := Lib.hid (doc_is A1 k1 xs w hC hk1)
  have v0 := kv.c0
  clear kv ht hC
  go_enter Try.func126, Try.ntmps126
  go_wp2_with (go_at_call 103; refine HD.out.mono ?_; rintro e w1 ⟨rfl, hb⟩; have HB := Lib.hid hb; clear hb)
  go_ret
  exact ⟨rfl, HB.out⟩

theorem spot0 (w : World) (A : Option Addr) (n c : Nat) : SpotAt (runW w A n c) (w.heap.size + 1) A c n 0 := by
  have := World.alloc_heap_new (w.alloc (.cells #[.int .i64 0] 28)) (.cells #[.slice A n c, .int .i64 0] 194)
  rwa [World.size_alloc] at this
theorem res0 (w : World) (A : Option Addr) (n c : Nat) : ResAt (runW w A n c) w.heap.size 0 := (Below.heap_alloc _ _ _ (by simp)).trans (World.alloc_heap_new w _)
theorem runW_below (w : World) (A : Option Addr) (n c : Nat) : Below w.heap.size w (runW w A n c) := ((Below.refl _ _).alloc (Nat.le_refl _) _).alloc (by simp) _
theorem runW_size (w : World) (A : Option Addr) (n c : Nat) : (runW w A n c).heap.size = w.heap.size + 2 := by unfold runW; rw [World.size_alloc, World.size_alloc]
theorem enters_fn {f : Nat} {fn : Func} (hf : Try.prog.funcs[f]? = some fn) (hname : (fn.name == "runtime.NumGoroutine") = false) (hb : fn.body.isSome = true) : ∀ args w, (callFunc f args).run Try.prog w = .ok (.enter f args) w := fun args w => enters_ hf hname hb args w
/-- A world that keeps what is old, but some blocks that are young. -/
theorem below_set_young {w w1 : World} (hb : Below w.heap.size w w1) (B k : Nat) (u : Value) (hB : w.heap.size ≤ B) : Below w.heap.size w (w1.setCell ⟨B, k, none⟩ u) := hb.setCell (p := ⟨B, k, none⟩) hB u

set_option maxHeartbeats 16000000 in
theorem getDoc_is (w : World) (A : Option Addr) (c : Nat) (b : List Int) (hC : Kd.C (Kd.int .u8) w A b.length b) (hc : b.length ≤ c) (hB : areBytesN b = true) :
    Calls Try.prog 63 #[.slice A b.length c] w fun e w' => ∃ v, e = .returned (.tuple #[v, .int .i64 (getDocF b).2]) ∧ TR w' w.heap.size v (getDocF b).1 ∧ Below w.heap.size w w' := by
  have hmf : ∀ (fn : Fn) (first cap : Array Value) (w : World), (Instr.makeFunc fn first cap).run Try.prog w = .ok (.func fn first cap) w := fun _ _ _ _ => rfl
  obtain ⟨wV, hwV⟩ : ∃ wV, wV = w.alloc (.cells #[.slice none 0 0] 22) := ⟨_, rfl⟩
  have hbV : Below w.heap.size w wV := by rw [hwV]; exact (Below.refl _ _).alloc (Nat.le_refl _) _
  have hzV : wV.heap.size = w.heap.size + 1 := by rw [hwV]; exact World.size_alloc _ _
  have hV : RowAt wV w.heap.size (.slice none 0 0) := by rw [hwV]; exact World.alloc_heap_new w _
  have hbr := runW_below wV A b.length c
  have hbR : Below w.heap.size w (runW wV A b.length c) := hbV.trans (hbr.mono hbV.size)
  have hVr : RowAt (runW wV A b.length c) w.heap.size (.slice none 0 0) := (hbr.block _ hV.lt).trans hV
  have hs := spot0 wV A b.length c
  have hrz := runW_size wV A b.length c
  have e1 := enters_fn Try.func124 (by kernel_rfl) rfl
  have e2 := enters_fn Try.func126 (by kernel_rfl) rfl
  have hR0 : ∀ {w1 : World} {q : Option Nat}, (runW wV A b.length c).grownBy w1 (some (wV.heap.size + 1)) → ResAt w1 wV.heap.size 0 := fun hg => (hg.block _ (by rw [hrz]; omega) (by intro e; have := Option.some.inj e; omega)).trans (res0 wV A b.length c)
  have hbG : ∀ {w1 : World}, (runW wV A b.length c).grownBy w1 (some (wV.heap.size + 1)) → Below w.heap.size w w1 := fun hg => below_of_grown hbR hg (by omega)
  unfold getDocF
  rcases hres : rdoc b with f | ⟨xs, r⟩
  · have hd := getDoc1_err (V := w.heap.size) hC hc hB hbR (by omega) hs (Nat.zero_le _) f (by rw [List.drop_zero]; exact hres)
    have hrun := run_err wV A b.length c 124 126 #[.pointer (some ⟨w.heap.size, 0, none⟩)] #[.pointer (some ⟨w.heap.size, 0, none⟩)] f (fun w1 => Below w.heap.size w w1) e1
      (hd.mono fun e w1 ⟨h1, h2⟩ => ⟨h1, hR0 (q := none) h2, hbG h2⟩)
    have hne := ErrNz.doc b f hres
    have hneb : (f != 0) = true := by simpa using hne
    rw [hzV, hwV] at hrun
    have HR := Lib.hid hrun
    have HZ : Hid (w.heap.size ≤ w.heap.size + 1) := Lib.hid (Nat.le_succ _)
    clear hC hB hwV hbV hzV hV hbr hbR hVr hs hrz e1 e2 hR0 hbG hres hd hrun hne
    unfold allF
    simp only
    go_enter Try.func63, Try.ntmps63
    go_wp2_with (go_at_call 92; refine HR.out.mono ?_; rintro e w1 ⟨rfl, w2, hj, rfl⟩; have HJ := Lib.hid (below_set_young hj _ 0 (.int .i64 f) HZ.out); clear hj)
    go_ret2
    exact ⟨_, rfl, Kd.R_nil _ _ _ _ _, HJ.out⟩
  · have hd := getDoc1_ok hC hc hB hbR (by omega) hs (Nat.zero_le _) xs r (by rw [List.drop_zero]; exact hres) hVr (by omega)
    obtain ⟨hbr1, _, _, _⟩ := rdoc_inv hB hres
    have hrl : r.length ≤ b.length := by rw [hbr1, List.length_append]; omega
    have hread : Calls Try.prog 124 (#[.agg #[.pointer (some ⟨wV.heap.size + 1, 0, none⟩)]] ++ #[.pointer (some ⟨w.heap.size, 0, none⟩)]) (runW wV A b.length c) fun e w1 => e = .returned (.tuple #[]) ∧ ResAt w1 wV.heap.size 0 ∧ SpotAt w1 (wV.heap.size + 1) A c b.length (b.length - r.length) ∧ (∃ v, RowAt w1 w.heap.size v ∧ TR w1 (w.heap.size + 3) v xs ∧ Below w.heap.size w w1) := by
      refine hd.mono ?_
      rintro e w1 ⟨rfl, v, w2, rfl, ht, hk, hg⟩
      have hv2 : RowAt w2 w.heap.size (.slice none 0 0) := (hg.block _ (by rw [hrz]; omega) (by intro e; have := Option.some.inj e; omega)).trans hVr
      refine ⟨rfl, (heap_set_ne w2 _ 0 _ v (by omega)).trans (hR0 (q := none) hg), (heap_set_ne w2 _ 0 _ v (by omega)).trans hk, v, hv2.put v, Kd.R_lower (ht.set (by rw [hrz]; omega) 0 v) (by rw [hrz]; omega), below_set_young (hbG hg) _ 0 v (Nat.le_refl _)⟩
    have hright : ∀ w1, (∃ v, RowAt w1 w.heap.size v ∧ TR w1 (w.heap.size + 3) v xs ∧ Below w.heap.size w w1) → Calls Try.prog 126 #[.pointer (some ⟨w.heap.size, 0, none⟩)] w1 fun e w2 => e = .returned (.int .i64 (docE xs)) ∧ Below w1.heap.size w1 w2 := by
      rintro w1 ⟨v, kv, ht, _⟩
      exact getDoc2_is kv ht
    unfold allF
    simp only
    by_cases hr : 0 < r.length
    · rw [if_pos (.inl hr)]
      have hrun := run_left wV A b.length c (b.length - r.length) 124 126 #[.pointer (some ⟨w.heap.size, 0, none⟩)] #[.pointer (some ⟨w.heap.size, 0, none⟩)] _ (by omega) e1 hread
      rw [hzV, hwV] at hrun
      have HR := Lib.hid hrun
      have HZ : Hid (w.heap.size ≤ w.heap.size + 1) := Lib.hid (Nat.le_succ _)
      clear hC hB hwV hbV hzV hV hbr hbR hVr hs hrz e1 e2 hR0 hbG hres hd hrun hread hright hbr1
      go_enter Try.func63, Try.ntmps63
      go_wp2_with (go_at_call 92; refine HR.out.mono ?_; rintro e w1 ⟨rfl, w2, ⟨v, hv, ht, hj⟩, rfl⟩; have HJ := Lib.hid (below_set_young hj (w.heap.size + 1) 0 (.int .i64 4) HZ.out); clear hv ht hj)
      go_ret2
      exact ⟨_, rfl, Kd.R_nil _ _ _ _ _, HJ.out⟩
    · have hr0 : b.length - r.length = b.length := by omega
      rw [hr0] at hread
      by_cases h0 : docE xs = 0
      · rw [if_neg (by omega)]
        rw [h0] at hright
        have hrun := run_good wV A b.length c 124 126 #[.pointer (some ⟨w.heap.size, 0, none⟩)] #[.pointer (some ⟨w.heap.size, 0, none⟩)] _ e1 e2 hread hright
        rw [hzV, hwV] at hrun
        have HR := Lib.hid hrun
        have HZ : Hid (w.heap.size ≤ w.heap.size + 1) := Lib.hid (Nat.le_succ _)
        clear hC hB hwV hbV hzV hV hbr hbR hVr hs hrz e1 e2 hR0 hbG hres hd hrun hread hright hbr1 hr hr0 h0
        go_enter Try.func63, Try.ntmps63
        go_wp2_with (go_at_call 92; refine HR.out.mono ?_; rintro e w1 ⟨rfl, w2, w3, ⟨v, hv, ht, hj⟩, hb3, rfl⟩; obtain ⟨A1, k1, rfl, _, _⟩ := ht.C; have HJ := Lib.hid (below_set_young (hj.trans (hb3.mono hj.size)) (w.heap.size + 1) 0 (.int .i64 0) HZ.out); have hv3 : RowAt (w3.setCell ⟨w.heap.size + 1, 0, none⟩ (.int .i64 0)) w.heap.size (.slice A1 xs.length k1) := (heap_set_ne w3 _ 0 _ _ (by omega)).trans ((hb3.block _ hv.lt).trans hv); have v0 := hv3.c0; have HT : Hid (TR (w3.setCell ⟨w.heap.size + 1, 0, none⟩ (.int .i64 0)) w.heap.size (.slice A1 xs.length k1) xs) := Lib.hid (Kd.R_lower (TR.set (Kd.R_below ht hb3) (E := w.heap.size + 1) (by omega) 0 _) (by omega)); clear hv ht hj hb3 hv3)
        go_ret2
        exact ⟨_, rfl, HT.out, HJ.out⟩
      · rw [if_pos (.inr h0)]
        have hrun := run_bad wV A b.length c 124 126 #[.pointer (some ⟨w.heap.size, 0, none⟩)] #[.pointer (some ⟨w.heap.size, 0, none⟩)] _ (docE xs) h0 e1 e2 hread hright
        rw [hzV, hwV] at hrun
        have HR := Lib.hid hrun
        have HZ : Hid (w.heap.size ≤ w.heap.size + 1) := Lib.hid (Nat.le_succ _)
        clear hC hB hwV hbV hzV hV hbr hbR hVr hs hrz e1 e2 hR0 hbG hres hd hrun hread hright hbr1 hr hr0 h0
        go_enter Try.func63, Try.ntmps63
        go_wp2_with (go_at_call 92; refine HR.out.mono ?_; rintro e w1 ⟨rfl, w2, w3, ⟨v, hv, ht, hj⟩, hb3, rfl⟩; have HJ := Lib.hid (below_set_young (hj.trans (hb3.mono hj.size)) (w.heap.size + 1) 0 (.int .i64 4) HZ.out); clear hv ht hj hb3)
        go_ret2
        exact ⟨_, rfl, Kd.R_nil _ _ _ _ _, HJ.out⟩

/-! ### An entry -/
section
variable {w : World} {E : Nat} {a0 a1 a2 a3 a4 a5 a6 a7 a9 : Int} {v : Value}
theorem EntC.lt (h : EntC w E a0 a1 a2 a3 a4 a5 a6 a7 v a9) : E < w.heap.size := (Array.getElem?_eq_some_iff.1 h).1
theorem EntC.f (h : EntC w E a0 a1 a2 a3 a4 a5 a6 a7 v a9) (i : Nat) : w.frozen? ⟨E, i, none⟩ = false := by simp [World.frozen?, show w.heap[E]? = _ from h]
theorem EntC.put (h : EntC w E a0 a1 a2 a3 a4 a5 a6 a7 v a9) (i : Nat) (u : Value) {b0 b1 b2 b3 b4 b5 b6 b7 b9 : Int} {v' : Value}
    (he : (#[.int .i64 a0, .int .i64 a1, .int .i64 a2, .int .i64 a3, .int .i64 a4, .int .i64 a5, .int .i64 a6, .int .i64 a7, v, .int .i64 a9] : Array Value).setIfInBounds i u = #[.int .i64 b0, .int .i64 b1, .int .i64 b2, .int .i64 b3, .int .i64 b4, .int .i64 b5, .int .i64 b6, .int .i64 b7, v', .int .i64 b9]) :
    EntC (w.setCell ⟨E, i, none⟩ u) E b0 b1 b2 b3 b4 b5 b6 b7 v' b9 := by
  unfold EntC World.setCell
  unfold EntC at h
  have he2 := congrArg Array.toList he
  simp [Array.getElem?_modify, h]
  simpa using he2
theorem EntC.cells (h : EntC w E a0 a1 a2 a3 a4 a5 a6 a7 v a9) : w.cell? ⟨E, 0, none⟩ = some (.int .i64 a0) ∧ w.cell? ⟨E, 1, none⟩ = some (.int .i64 a1) ∧ w.cell? ⟨E, 2, none⟩ = some (.int .i64 a2) ∧ w.cell? ⟨E, 3, none⟩ = some (.int .i64 a3) ∧ w.cell? ⟨E, 4, none⟩ = some (.int .i64 a4) ∧
    w.cell? ⟨E, 5, none⟩ = some (.int .i64 a5) ∧ w.cell? ⟨E, 6, none⟩ = some (.int .i64 a6) ∧ w.cell? ⟨E, 7, none⟩ = some (.int .i64 a7) ∧ w.cell? ⟨E, 8, none⟩ = some v ∧ w.cell? ⟨E, 9, none⟩ = some (.int .i64 a9) := by
  simp [World.cell?, show w.heap[E]? = _ from h]
end
/-- An entry stored whole. -/
def setEnt (w : World) (E : Nat) (b0 b1 b2 b3 b4 b5 b6 b7 : Int) (u : Value) (b9 : Int) : World :=
  (((((((((w.setCell ⟨E, 0, none⟩ (.int .i64 b0)).setCell ⟨E, 1, none⟩ (.int .i64 b1)).setCell ⟨E, 2, none⟩ (.int .i64 b2)).setCell ⟨E, 3, none⟩ (.int .i64 b3)).setCell ⟨E, 4, none⟩ (.int .i64 b4)).setCell ⟨E, 5, none⟩ (.int .i64 b5)).setCell ⟨E, 6, none⟩ (.int .i64 b6)).setCell ⟨E, 7, none⟩ (.int .i64 b7)).setCell ⟨E, 8, none⟩ u).setCell ⟨E, 9, none⟩ (.int .i64 b9)
theorem EntC.set {w : World} {E : Nat} {a0 a1 a2 a3 a4 a5 a6 a7 a9 : Int} {v : Value} (h : EntC w E a0 a1 a2 a3 a4 a5 a6 a7 v a9) (b0 b1 b2 b3 b4 b5 b6 b7 : Int) (u : Value) (b9 : Int) : EntC (setEnt w E b0 b1 b2 b3 b4 b5 b6 b7 u b9) E b0 b1 b2 b3 b4 b5 b6 b7 u b9 :=
  (((((((((h.put 0 (.int .i64 b0) rfl).put 1 (.int .i64 b1) rfl).put 2 (.int .i64 b2) rfl).put 3 (.int .i64 b3) rfl).put 4 (.int .i64 b4) rfl).put 5 (.int .i64 b5) rfl).put 6 (.int .i64 b6) rfl).put 7 (.int .i64 b7) rfl).put 8 u rfl).put 9 (.int .i64 b9) rfl
theorem setEnt_ne (w : World) (E j : Nat) (b0 b1 b2 b3 b4 b5 b6 b7 : Int) (u : Value) (b9 : Int) (h : j ≠ E) : (setEnt w E b0 b1 b2 b3 b4 b5 b6 b7 u b9).heap[j]? = w.heap[j]? := by
  unfold setEnt
  rw [heap_set_ne _ _ _ _ _ h, heap_set_ne _ _ _ _ _ h, heap_set_ne _ _ _ _ _ h, heap_set_ne _ _ _ _ _ h, heap_set_ne _ _ _ _ _ h, heap_set_ne _ _ _ _ _ h, heap_set_ne _ _ _ _ _ h, heap_set_ne _ _ _ _ _ h, heap_set_ne _ _ _ _ _ h, heap_set_ne _ _ _ _ _ h]
theorem TR.setEnt {w : World} {base E : Nat} {v : Value} {xs : List K.S111} (h : TR w base v xs) (hE : E < base) (b0 b1 b2 b3 b4 b5 b6 b7 : Int) (u : Value) (b9 : Int) : TR (setEnt w E b0 b1 b2 b3 b4 b5 b6 b7 u b9) base v xs :=
  (((((((((h.set hE 0 _).set hE 1 _).set hE 2 _).set hE 3 _).set hE 4 _).set hE 5 _).set hE 6 _).set hE 7 _).set hE 8 _).set hE 9 _
theorem below_setEnt {w w1 : World} (hb : Below w.heap.size w w1) (E : Nat) (hE : w.heap.size ≤ E) (b0 b1 b2 b3 b4 b5 b6 b7 : Int) (u : Value) (b9 : Int) : Below w.heap.size w (setEnt w1 E b0 b1 b2 b3 b4 b5 b6 b7 u b9) :=
  below_set_young (below_set_young (below_set_young (below_set_young (below_set_young (below_set_young (below_set_young (below_set_young (below_set_young (below_set_young hb E 0 _ hE) E 1 _ hE) E 2 _ hE) E 3 _ hE) E 4 _ hE) E 5 _ hE) E 6 _ hE) E 7 _ hE) E 8 _ hE) E 9 _ hE

set_option maxHeartbeats 8000000 in
theorem getEnt1_err {w0 w : World} {P V c p : Nat} {A : Option Addr} {b : List Int} (hC : Kd.C (Kd.int .u8) w0 A b.length b) (hc : b.length ≤ c) (hB : areBytesN b = true) (hb : Below w0.heap.size w0 w) (hP : w0.heap.size ≤ P) (k : SpotAt w P A c b.length p) (hp : p ≤ b.length) (f : Int) (hres : rent (b.drop p) = .error f) :
    Calls Try.prog 93 (#[.agg #[.pointer (some ⟨P, 0, none⟩)]] ++ #[.pointer (some ⟨V, 0, none⟩)]) w fun e w' => e = .panicked (errCh f) ∧ w.grownBy w' (some P) := by
  have hPl := k.lt
  have hbx : Below w.heap.size w (w.alloc (.cells #[.pointer (some ⟨P, 0, none⟩)] 140)) := (Below.refl _ _).alloc (Nat.le_refl _) _
  have hd := sent_is hC hc hB (hb.trans (hbx.mono hb.size)) hP (k.below hbx hPl) hp
  rw [hres] at hd
  have HD := Lib.hid hd
  have HX := Lib.hid (grown_of_below hbx (some P))
  clear hC hB hb k hd hres hbx
  show Calls _ _ #[.agg #[.pointer (some ⟨P, 0, none⟩)], .pointer (some ⟨V, 0, none⟩)] _ _
  go_enter Try.func93, Try.ntmps93
  go_wp2_with (go_at_call 94; refine HD.out.mono ?_; rintro e w1 h1; obtain ⟨rfl, hg⟩ := h1.err_inv; have HG := Lib.hid (HX.out.trans hg); clear h1 hg)
  exact ⟨rfl, rfl, HG.out⟩

set_option maxHeartbeats 8000000 in
theorem getEnt1_ok {w0 w : World} {P V c p : Nat} {A : Option Addr} {b : List Int} (hC : Kd.C (Kd.int .u8) w0 A b.length b) (hc : b.length ≤ c) (hB : areBytesN b = true) (hb : Below w0.heap.size w0 w) (hP : w0.heap.size ≤ P) (k : SpotAt w P A c b.length p) (hp : p ≤ b.length) (x : K.S26) (r : List Int) (hres : rent (b.drop p) = .ok (x, r))
    {a0 a1 a2 a3 a4 a5 a6 a7 a9 : Int} {v : Value} (kv : EntC w V a0 a1 a2 a3 a4 a5 a6 a7 v a9) (hVP : V ≠ P) :
    Calls Try.prog 93 (#[.agg #[.pointer (some ⟨P, 0, none⟩)]] ++ #[.pointer (some ⟨V, 0, none⟩)]) w fun e w' => e = .returned (.tuple #[]) ∧ ∃ u w2, w' = setEnt w2 V x.f0 x.f1 x.f2.f0 x.f2.f1 x.f2.f2 x.f2.f3 x.f2.f4 x.f2.f5 u x.f2.f7 ∧ EntC w2 V a0 a1 a2 a3 a4 a5 a6 a7 v a9 ∧ TR w2 w.heap.size u x.f2.f6 ∧ SpotAt w2 P A c b.length (b.length - r.length) ∧ w.grownBy w2 (some P) := by
  have hPl := k.lt
  have hbx : Below w.heap.size w (w.alloc (.cells #[.pointer (some ⟨P, 0, none⟩)] 140)) := (Below.refl _ _).alloc (Nat.le_refl _) _
  have hd := sent_is hC hc hB (hb.trans (hbx.mono hb.size)) hP (k.below hbx hPl) hp
  rw [hres] at hd
  have HD := Lib.hid hd
  have HX := Lib.hid (grown_of_below hbx (some P))
  have HZ := Lib.hid hbx.size
  have HV := Lib.hid kv
  clear hC hB hb k hd hres hbx kv
  show Calls _ _ #[.agg #[.pointer (some ⟨P, 0, none⟩)], .pointer (some ⟨V, 0, none⟩)] _ _
  go_enter Try.func93, Try.ntmps93
  go_wp2_with (go_at_call 94; refine HD.out.mono ?_; rintro e w1 h1; obtain ⟨v1, rfl, ⟨u, rfl, ht⟩, hk, hg⟩ := h1.ok_inv; obtain ⟨A1, k1, rfl, _, _⟩ := ht.C; have HT := Lib.hid (Kd.R_lower ht HZ.out); have HK := Lib.hid hk; have HG := Lib.hid (HX.out.trans hg); have hv1 : EntC w1 V a0 a1 a2 a3 a4 a5 a6 a7 v a9 := (HG.out.block _ HV.out.lt (by intro e; exact hVP (Option.some.inj e))).trans HV.out; have HV1 := Lib.hid hv1; obtain ⟨v0, v1, v2, v3, v4, v5, v6, v7, v8, v9⟩ := hv1.cells; have vf := hv1.f; clear h1 ht hk hg hv1)
  go_end0
  exact ⟨rfl, _, w1, rfl, HV1.out, HT.out, HK.out, HG.out⟩

set_option maxHeartbeats 8000000 in
theorem getEnt2_is {w : World} {V base : Nat} {u : Value} {x : K.S26} (kv : EntC w V x.f0 x.f1 x.f2.f0 x.f2.f1 x.f2.f2 x.f2.f3 x.f2.f4 x.f2.f5 u x.f2.f7) (ht : TR w base u x.f2.f6) :
    Calls Try.prog 95 #[.pointer (some ⟨V, 0, none⟩)] w fun e w' => e = .returned (.int .i64 (entryE x)) ∧ Below w.heap.size w w' := by
  obtain ⟨A1, k1, rfl, hk1, hC⟩ := ht.C
  have HD := Lib.hid (entry_is x A1 k1 w hC hk1)
  obtain ⟨v0, v1, v2, v3, v4, v5, v6, v7, v8, v9⟩ := kv.cells
  clear kv ht hC
  go_enter Try.func95, Try.ntmps95
  go_wp2_with (go_at_call 87; refine HD.out.mono ?_; rintro e w1 ⟨rfl, hb⟩; have HB := Lib.hid hb; clear hb)
  go_ret
  exact ⟨rfl, HB.out⟩
end Go.Proofs.Ytmbnjgnmblgjoaa.Man
