/- codec.GetMsg of the given program: what it comes to, for all bytes. Printed by wip/tools/gen_getmsg.py. -/
import Derived.Test.YtmbnjgnmblgjoaaReadMsg
namespace Go.Proofs.Ytmbnjgnmblgjoaa.Man
open Go.RowKit Go.Proofs.YtmbnjgnmblgjoaaW.PrintWords Go.Proofs.YtmbnjgnmblgjoaaW.PrintLast Go.Proofs.YtmbnjgnmblgjoaaW.PrintMore
set_option linter.unusedVariables false
set_option linter.unusedSimpArgs false
set_option maxRecDepth 100000

theorem MsgC.ne {w w1 : World} {E : Nat} {a0 a1 a2 : Int} {v : Value} (h : MsgC w E a0 a1 a2 v) (e : w1.heap[E]? = w.heap[E]?) : MsgC w1 E a0 a1 a2 v := e.trans h
/-- A message stored whole. -/
def setMsg (w : World) (E : Nat) (b0 b1 b2 : Int) (u : Value) : World :=
  (((w.setCell ⟨E, 0, none⟩ (.int .i64 b0)).setCell ⟨E, 1, none⟩ (.int .i64 b1)).setCell ⟨E, 2, none⟩ (.int .i64 b2)).setCell ⟨E, 3, none⟩ u
theorem MsgC.set {w : World} {E : Nat} {a0 a1 a2 : Int} {v : Value} (h : MsgC w E a0 a1 a2 v) (b0 b1 b2 : Int) (u : Value) : MsgC (setMsg w E b0 b1 b2 u) E b0 b1 b2 u :=
  (((h.put 0 (.int .i64 b0) rfl).put 1 (.int .i64 b1) rfl).put 2 (.int .i64 b2) rfl).put 3 u rfl
theorem ER.setMsg {w : World} {base E : Nat} {v : Value} {xs : List K.S26} (h : ER w base v xs) (hE : E < base) (b0 b1 b2 : Int) (u : Value) : ER (setMsg w E b0 b1 b2 u) base v xs :=
  (((h.set hE 0 _).set hE 1 _).set hE 2 _).set hE 3 _
theorem below_setMsg {w w1 : World} (hb : Below w.heap.size w w1) (E : Nat) (hE : w.heap.size ≤ E) (b0 b1 b2 : Int) (u : Value) : Below w.heap.size w (setMsg w1 E b0 b1 b2 u) :=
  below_set_young (below_set_young (below_set_young (below_set_young hb E 0 _ hE) E 1 _ hE) E 2 _ hE) E 3 _ hE
/-- A message read: its value. -/
def MsgR (base : Nat) (m : MsgL) (r : Value) (w' : World) : Prop := ∃ u, r = .agg #[.int .i64 m.k, .int .i64 m.who, .int .i64 m.ver, u] ∧ ER w' base u m.l

set_option maxHeartbeats 8000000 in
theorem getMsg2_is {w : World} {V base : Nat} {u : Value} {m : MsgL} (kv : MsgC w V m.k m.who m.ver u) (ht : ER w base u m.l) :
    Calls Try.prog 132 #[.pointer (some ⟨V, 0, none⟩)] w fun e w' => e = .returned (.int .i64 (msgE m)) ∧ Below w.heap.size w w' := by
  obtain ⟨A1, k1, rfl, hk1, hC⟩ := ht.C
  have HD := Lib.hid (message_is m A1 k1 w hC hk1)
  obtain ⟨v0, v1, v2, v3⟩ := kv.cells
  clear kv ht hC
  go_enter Try.func132, Try.ntmps132
  go_wp2_with (go_at_call 109; refine HD.out.mono ?_; rintro e w1 ⟨rfl, hb⟩; have HB := Lib.hid hb; clear hb)
  go_ret
  exact ⟨rfl, HB.out⟩

set_option maxHeartbeats 16000000 in
theorem getMsg_is (w : World) (A : Option Addr) (c : Nat) (b : List Int) (hC : Kd.C (Kd.int .u8) w A b.length b) (hc : b.length ≤ c) (hB : areBytesN b = true) :
    Calls Try.prog 66 #[.slice A b.length c] w fun e w' => ∃ r, e = .returned (.tuple #[r, .int .i64 (getMsgF b).2]) ∧ MsgR w.heap.size (getMsgF b).1 r w' ∧ Below w.heap.size w w' := by
  have hmf : ∀ (fn : Fn) (first cap : Array Value) (w : World), (Instr.makeFunc fn first cap).run Try.prog w = .ok (.func fn first cap) w := fun _ _ _ _ => rfl
  obtain ⟨wV, hwV⟩ : ∃ wV, wV = (w.alloc (.cells #[.int .i64 0, .int .i64 0, .int .i64 0, .slice none 0 0] 71)).alloc (.cells #[.int .i64 0, .int .i64 0, .int .i64 0, .slice none 0 0] 71) := ⟨_, rfl⟩
  have hbV : Below w.heap.size w wV := by rw [hwV]; exact ((Below.refl _ _).alloc (Nat.le_refl _) _).alloc (by simp) _
  have hzV : wV.heap.size = w.heap.size + 2 := by rw [hwV, World.size_alloc, World.size_alloc]
  have hS : MsgC wV w.heap.size 0 0 0 (.slice none 0 0) := by rw [hwV]; exact (Below.heap_alloc _ _ _ (by simp)).trans (World.alloc_heap_new w _)
  have hV : MsgC wV (w.heap.size + 1) 0 0 0 (.slice none 0 0) := by rw [hwV]; have := World.alloc_heap_new (w.alloc (.cells #[.int .i64 0, .int .i64 0, .int .i64 0, .slice none 0 0] 71)) (.cells #[.int .i64 0, .int .i64 0, .int .i64 0, .slice none 0 0] 71); rwa [World.size_alloc] at this
  have hbr := runW_below wV A b.length c
  have hbR : Below w.heap.size w (runW wV A b.length c) := hbV.trans (hbr.mono hbV.size)
  have hrz := runW_size wV A b.length c
  have hVr : MsgC (runW wV A b.length c) (w.heap.size + 1) 0 0 0 (.slice none 0 0) := hV.ne (hbr.block _ hV.lt)
  have hSr : MsgC (runW wV A b.length c) w.heap.size 0 0 0 (.slice none 0 0) := hS.ne (hbr.block _ hS.lt)
  have hs := spot0 wV A b.length c
  have e1 := enters_fn Try.func130 (by kernel_rfl) rfl
  have e2 := enters_fn Try.func132 (by kernel_rfl) rfl
  have hR0 : ∀ {w1 : World}, Kp2 (runW wV A b.length c) w1 (wV.heap.size + 1) (w.heap.size + 1) → ResAt w1 wV.heap.size 0 := fun hk => (hk.block _ (by rw [hrz]; omega) (by omega) (by omega)).trans (res0 wV A b.length c)
  have hS0 : ∀ {w1 : World}, Kp2 (runW wV A b.length c) w1 (wV.heap.size + 1) (w.heap.size + 1) → MsgC w1 w.heap.size 0 0 0 (.slice none 0 0) := fun hk => hSr.ne (hk.block _ (by rw [hrz]; omega) (by omega) (by omega))
  have hbG : ∀ {w1 : World}, Kp2 (runW wV A b.length c) w1 (wV.heap.size + 1) (w.heap.size + 1) → Below w.heap.size w w1 := fun hk => hk.old hbR (by omega) (by omega)
  have hd := smsg_is hC hc hB hbR (by omega) (by omega) (Nat.zero_le _) hs (by omega) hVr
  rw [List.drop_zero] at hd
  unfold getMsgF
  rcases hres : rmsg b with f | ⟨m, r⟩
  · rw [hres] at hd
    have hrun := run_err wV A b.length c 130 132 #[.pointer (some ⟨w.heap.size + 1, 0, none⟩)] #[.pointer (some ⟨w.heap.size + 1, 0, none⟩)] f (fun w1 => MsgC w1 w.heap.size 0 0 0 (.slice none 0 0) ∧ Below w.heap.size w w1) e1
      (hd.mono fun e w1 ⟨h2, h1⟩ => ⟨h1, hR0 h2, hS0 h2, hbG h2⟩)
    have hne := ErrNz.msg b f hres
    have hneb : (f != 0) = true := by simpa using hne
    rw [hzV, hwV] at hrun
    have HR := Lib.hid hrun
    unfold allF
    simp only
    have HZ : Hid (w.heap.size ≤ w.heap.size + 2) := Lib.hid (by omega)
    clear hC hB hwV hbV hzV hS hV hbr hbR hrz hVr hSr hs e1 e2 hR0 hS0 hbG hres hd hrun hne
    go_enter Try.func66, Try.ntmps66
    go_upto_region 4 with (go_at_call 92; refine HR.out.mono ?_; rintro e w1 ⟨rfl, w2, ⟨hs1, hj⟩, rfl⟩; have HJ := Lib.hid (below_set_young hj (w.heap.size + 2) 0 (.int .i64 f) HZ.out); have HS1 : Hid (MsgC (w2.setCell ⟨w.heap.size + 2, 0, none⟩ (.int .i64 f)) w.heap.size 0 0 0 (.slice none 0 0)) := Lib.hid (hs1.ne (heap_set_ne w2 _ 0 _ _ (by omega))); obtain ⟨v0, v1, v2, v3⟩ := HS1.out.cells; have vf := HS1.out.f; clear hj hs1)
    go_wp2
    obtain ⟨z0, z1, z2, z3⟩ := (HS1.out.set 0 0 0 (.slice none 0 0)).cells
    unfold setMsg at z0 z1 z2 z3
    refine bodyPost_ret (v := .tuple #[.agg #[.int .i64 0, .int .i64 0, .int .i64 0, .slice none 0 0], .int .i64 f]) (by simp [results, Try.results66, go_sem, z0, z1, z2, z3]) rfl ?_
    exact ⟨_, rfl, ⟨_, rfl, Kd.R_nil _ _ _ _ _⟩, below_setMsg HJ.out w.heap.size (Nat.le_refl _) 0 0 0 (.slice none 0 0)⟩
  · rw [hres] at hd
    have hbr1 := (rmsg_inv hB hres).1
    have hrl : r.length ≤ b.length := by rw [hbr1, List.length_append]; omega
    have hread : Calls Try.prog 130 (#[.agg #[.pointer (some ⟨wV.heap.size + 1, 0, none⟩)]] ++ #[.pointer (some ⟨w.heap.size + 1, 0, none⟩)]) (runW wV A b.length c) fun e w1 => e = .returned (.tuple #[]) ∧ ResAt w1 wV.heap.size 0 ∧ SpotAt w1 (wV.heap.size + 1) A c b.length (b.length - r.length) ∧ (∃ u, MsgC w1 (w.heap.size + 1) m.k m.who m.ver u ∧ ER w1 (w.heap.size + 4) u m.l ∧ MsgC w1 w.heap.size 0 0 0 (.slice none 0 0) ∧ Below w.heap.size w w1) := by
      refine hd.mono ?_
      rintro e w1 ⟨hk, he, u, hv2, ht, hp⟩
      exact ⟨he, hR0 hk, hp, u, hv2, Kd.R_lower ht (by rw [hrz]; omega), hS0 hk, hbG hk⟩
    have hright : ∀ w1, (∃ u, MsgC w1 (w.heap.size + 1) m.k m.who m.ver u ∧ ER w1 (w.heap.size + 4) u m.l ∧ MsgC w1 w.heap.size 0 0 0 (.slice none 0 0) ∧ Below w.heap.size w w1) → Calls Try.prog 132 #[.pointer (some ⟨w.heap.size + 1, 0, none⟩)] w1 fun e w2 => e = .returned (.int .i64 (msgE m)) ∧ Below w1.heap.size w1 w2 := by
      rintro w1 ⟨u, kv, ht, _⟩
      exact getMsg2_is kv ht
    unfold allF
    simp only
    by_cases hr : 0 < r.length
    · rw [if_pos (.inl hr)]
      have hrun := run_left wV A b.length c (b.length - r.length) 130 132 #[.pointer (some ⟨w.heap.size + 1, 0, none⟩)] #[.pointer (some ⟨w.heap.size + 1, 0, none⟩)] _ (by omega) e1 hread
      rw [hzV, hwV] at hrun
      have HR := Lib.hid hrun
      have HZ : Hid (w.heap.size ≤ w.heap.size + 2) := Lib.hid (by omega)
      clear hC hB hwV hbV hzV hS hV hbr hbR hrz hVr hSr hs e1 e2 hR0 hS0 hbG hres hd hrun hread hright hbr1
      go_enter Try.func66, Try.ntmps66
      go_upto_region 4 with (go_at_call 92; refine HR.out.mono ?_; rintro e w1 ⟨rfl, w2, ⟨u, _, _, hs1, hj⟩, rfl⟩; have HJ := Lib.hid (below_set_young hj (w.heap.size + 2) 0 (.int .i64 4) HZ.out); have HS1 : Hid (MsgC (w2.setCell ⟨w.heap.size + 2, 0, none⟩ (.int .i64 4)) w.heap.size 0 0 0 (.slice none 0 0)) := Lib.hid (hs1.ne (heap_set_ne w2 _ 0 _ _ (by omega))); obtain ⟨v0, v1, v2, v3⟩ := HS1.out.cells; have vf := HS1.out.f; clear hj hs1)
      go_wp2
      obtain ⟨z0, z1, z2, z3⟩ := (HS1.out.set 0 0 0 (.slice none 0 0)).cells
      unfold setMsg at z0 z1 z2 z3
      refine bodyPost_ret (v := .tuple #[.agg #[.int .i64 0, .int .i64 0, .int .i64 0, .slice none 0 0], .int .i64 4]) (by simp [results, Try.results66, go_sem, z0, z1, z2, z3]) rfl ?_
      exact ⟨_, rfl, ⟨_, rfl, Kd.R_nil _ _ _ _ _⟩, below_setMsg HJ.out w.heap.size (Nat.le_refl _) 0 0 0 (.slice none 0 0)⟩
    · have hr0 : b.length - r.length = b.length := by omega
      rw [hr0] at hread
      by_cases h0 : msgE m = 0
      · rw [if_neg (by omega)]
        rw [h0] at hright
        have hrun := run_good wV A b.length c 130 132 #[.pointer (some ⟨w.heap.size + 1, 0, none⟩)] #[.pointer (some ⟨w.heap.size + 1, 0, none⟩)] _ e1 e2 hread hright
        rw [hzV, hwV] at hrun
        have HR := Lib.hid hrun
        have HZ : Hid (w.heap.size ≤ w.heap.size + 2) := Lib.hid (by omega)
        clear hC hB hwV hbV hzV hS hV hbr hbR hrz hVr hSr hs e1 e2 hR0 hS0 hbG hres hd hrun hread hright hbr1 hr hr0 h0
        go_enter Try.func66, Try.ntmps66
        go_upto_region 5 with (go_at_call 92; refine HR.out.mono ?_; rintro e w1 ⟨rfl, w2, w3, ⟨u, hv, ht, hs1, hj⟩, hb3, rfl⟩; obtain ⟨A1, k1, rfl, _, _⟩ := ht.C; have HJ := Lib.hid (below_set_young (hj.trans (hb3.mono hj.size)) (w.heap.size + 2) 0 (.int .i64 0) HZ.out); have HV3 : Hid (MsgC (w3.setCell ⟨w.heap.size + 2, 0, none⟩ (.int .i64 0)) (w.heap.size + 1) m.k m.who m.ver (.slice A1 m.l.length k1)) := Lib.hid (hv.ne ((heap_set_ne w3 _ 0 _ _ (by omega)).trans (hb3.block _ hv.lt))); have HS3 : Hid (MsgC (w3.setCell ⟨w.heap.size + 2, 0, none⟩ (.int .i64 0)) w.heap.size 0 0 0 (.slice none 0 0)) := Lib.hid (hs1.ne ((heap_set_ne w3 _ 0 _ _ (by omega)).trans (hb3.block _ hs1.lt))); have HT : Hid (ER (w3.setCell ⟨w.heap.size + 2, 0, none⟩ (.int .i64 0)) (w.heap.size + 4) (.slice A1 m.l.length k1) m.l) := Lib.hid (ER.set (Kd.R_below ht hb3) (E := w.heap.size + 2) (by omega) 0 _); clear hv ht hj hb3 hs1)
        obtain ⟨w4, hw4⟩ : ∃ w4, w3.setCell ⟨w.heap.size + 2, 0, none⟩ (.int .i64 0) = w4 := ⟨_, rfl⟩
        rw [hw4] at HJ HV3 HS3 HT ⊢
        clear hw4
        obtain ⟨u0, u1, u2, u3⟩ := HV3.out.cells
        obtain ⟨s0, s1, s2, s3⟩ := HS3.out.cells
        have sf := HS3.out.f
        go_wp2
        obtain ⟨z0, z1, z2, z3⟩ := (HS3.out.set m.k m.who m.ver (.slice A1 m.l.length k1)).cells
        unfold setMsg at z0 z1 z2 z3
        refine bodyPost_ret (v := .tuple #[.agg #[.int .i64 m.k, .int .i64 m.who, .int .i64 m.ver, .slice A1 m.l.length k1], .int .i64 0]) (by simp [results, Try.results66, go_sem, z0, z1, z2, z3]) rfl ?_
        exact ⟨_, rfl, ⟨_, rfl, Kd.R_lower (HT.out.setMsg (E := w.heap.size) (by omega) _ _ _ _) (by omega)⟩, below_setMsg HJ.out w.heap.size (Nat.le_refl _) m.k m.who m.ver (.slice A1 m.l.length k1)⟩
      · rw [if_pos (.inr h0)]
        have hrun := run_bad wV A b.length c 130 132 #[.pointer (some ⟨w.heap.size + 1, 0, none⟩)] #[.pointer (some ⟨w.heap.size + 1, 0, none⟩)] _ (msgE m) h0 e1 e2 hread hright
        rw [hzV, hwV] at hrun
        have HR := Lib.hid hrun
        have HZ : Hid (w.heap.size ≤ w.heap.size + 2) := Lib.hid (by omega)
        clear hC hB hwV hbV hzV hS hV hbr hbR hrz hVr hSr hs e1 e2 hR0 hS0 hbG hres hd hrun hread hright hbr1 hr hr0 h0
        go_enter Try.func66, Try.ntmps66
        go_upto_region 4 with (go_at_call 92; refine HR.out.mono ?_; rintro e w1 ⟨rfl, w2, w3, ⟨u, _, _, hs0, hj0⟩, hb3, rfl⟩; have hj := hj0.trans (hb3.mono hj0.size); have hs1 := hs0.ne (hb3.block _ hs0.lt); have HJ := Lib.hid (below_set_young hj (w.heap.size + 2) 0 (.int .i64 4) HZ.out); have HS1 : Hid (MsgC (w3.setCell ⟨w.heap.size + 2, 0, none⟩ (.int .i64 4)) w.heap.size 0 0 0 (.slice none 0 0)) := Lib.hid (hs1.ne (heap_set_ne w3 _ 0 _ _ (by omega))); obtain ⟨v0, v1, v2, v3⟩ := HS1.out.cells; have vf := HS1.out.f; clear hj hs1)
        go_wp2
        obtain ⟨z0, z1, z2, z3⟩ := (HS1.out.set 0 0 0 (.slice none 0 0)).cells
        unfold setMsg at z0 z1 z2 z3
        refine bodyPost_ret (v := .tuple #[.agg #[.int .i64 0, .int .i64 0, .int .i64 0, .slice none 0 0], .int .i64 4]) (by simp [results, Try.results66, go_sem, z0, z1, z2, z3]) rfl ?_
        exact ⟨_, rfl, ⟨_, rfl, Kd.R_nil _ _ _ _ _⟩, below_setMsg HJ.out w.heap.size (Nat.le_refl _) 0 0 0 (.slice none 0 0)⟩
end Go.Proofs.Ytmbnjgnmblgjoaa.Man
