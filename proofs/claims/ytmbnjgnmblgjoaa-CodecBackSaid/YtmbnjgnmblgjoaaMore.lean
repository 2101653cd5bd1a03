/- sum.More of the given program: what it comes to, for every sum (of uint32's range) and every row of bytes. Conditions: the row reads as bytes; the sum lies in uint32's range. -/
import Derived.Test.YtmbnjgnmblgjoaaProg
import Derived.Below
import Derived.RangeFuncBox
import Derived.RangeFuncNested
import Derived.OneCell
import Derived.WalkKit
import Derived.KernelRfl
import Derived.RowKit3
import Derived.Deep.LoopGhost
import Derived.Deep.QuietTactic
import Derived.BigQuiet
import Derived.RegionTactic
import Derived.RegionCalls
import Derived.Deep.RegionWith
import Derived.Outline
import Derived.StillTailTactics
import Derived.Lib.Hide
import Derived.Deep.DeepCutAuto
import Derived.Deep.CutBlock
import Derived.Test.YtmbnjgnmblgjoaaWWords
import Derived.Test.YtmbnjgnmblgjoaaWLast
namespace Go.Proofs.Ytmbnjgnmblgjoaa.Man
open Go.RowKit Go.Proofs.YtmbnjgnmblgjoaaW.PrintWords Go.Proofs.YtmbnjgnmblgjoaaW.PrintLast
set_option linter.unusedVariables false
set_option linter.unusedSimpArgs false

/-- All are bytes. -/
def areBytes (l : List Int) : Bool := l.all fun c => decide (0 ≤ c ∧ c ≤ 255)
theorem getD_lt {l : List Int} {k : Nat} (hk : k < l.length) : l.getD k 0 = l[k] := by simp [List.getD, hk]
theorem areBytes_get {l : List Int} (h : areBytes l = true) {k : Nat} (hk : k < l.length) : 0 ≤ l.getD k 0 ∧ l.getD k 0 ≤ 255 := by
  unfold areBytes at h
  rw [List.all_eq_true] at h
  have := h (l.getD k 0) (by rw [getD_lt hk]; exact List.getElem_mem hk)
  simpa using this

/-- The numbers of sum.More's loop, one byte more. -/
def mstep (x y : Int) (i : Nat) (c : Int) : Int × Int :=
  if i % 1000 = 999 then ((x + c) % 65521, (y + (x + c)) % 65521) else (x + c, y + (x + c))
/-- .. all bytes from place i on. -/
def mrun : List Int → Nat → Int → Int → Int × Int
  | [], _, x, y => (x, y)
  | c :: l, i, x, y => mrun l (i + 1) (mstep x y i c).1 (mstep x y i c).2
theorem mrun_at {l : List Int} {k : Nat} (hk : k < l.length) (x y : Int) : mrun (l.drop k) k x y = mrun (l.drop (k + 1)) (k + 1) (mstep x y k (l.getD k 0)).1 (mstep x y k (l.getD k 0)).2 := by
  rw [List.drop_eq_getElem_cons hk, mrun, getD_lt hk]
def mbd (k : Nat) (x y : Int) : Prop := 0 ≤ x ∧ x ≤ 65520 + 255 * ((k % 1000 : Nat) : Int) ∧ 0 ≤ y ∧ y ≤ 65520 + 330000 * ((k % 1000 : Nat) : Int)
theorem mbd_next {k : Nat} {x y c : Int} (h : mbd k x y) (h0 : 0 ≤ c) (h1 : c ≤ 255) : mbd (k + 1) (mstep x y k c).1 (mstep x y k c).2 := by
  unfold mbd at *
  unfold mstep
  split
  · have : (k + 1) % 1000 = 0 := by omega
    simp only [this]; omega
  · have : ((k + 1) % 1000 : Nat) = k % 1000 + 1 := by omega
    simp only [this]; omega

theorem Boxed.below {W W' : World} {B n : Nat} {t : TypeId} {v : Value} (h : Boxed W B t v) (hb : Below n W W') (hn : B < n) : Boxed W' B t v := (hb.block B hn).trans h

set_option maxHeartbeats 800000 in
theorem add_any (c x y : Int) (bx by_ : Nat) (w : World) (hne : bx ≠ by_) (hx : Boxed w bx 90 (.int .u64 x)) (hy : Boxed w by_ 90 (.int .u64 y))
    (h0 : 0 ≤ x) (h1 : x ≤ 1000000) (h2 : 0 ≤ y) (h3 : y ≤ 1000000000) (h4 : 0 ≤ c) (h5 : c ≤ 255) :
    Calls Try.prog 161 #[.int .u8 c, .pointer (some ⟨bx, 0, none⟩), .pointer (some ⟨by_, 0, none⟩)] w fun e w' =>
      e = .returned (.tuple #[]) ∧ w' = (w.setCell ⟨bx, 0, none⟩ (.int .u64 (x + c))).setCell ⟨by_, 0, none⟩ (.int .u64 (y + (x + c))) := by
  have cx := hx.cell
  have fx := hx.frozen
  have cy := hy.cell
  have fy := hy.frozen
  go_enter Try.func161, Try.ntmps161
  go_wp2
  go_end0
  exact ⟨rfl, rfl⟩

/-- The two parts of a sum, and the sum of parts. -/
def partA (s : Int) : Int := (s % 65536) % 65521
def partB (s : Int) : Int := (s / 65536) % 65521
def joinP (a b : Int) : Int := (b % 65521) * 65536 + a % 65521

theorem and_low (s : Int) (h0 : 0 ≤ s) (h1 : s < 4294967296) : Go.bits .and .u32 s 65535 = s % 65536 :=
  bits_mask .u32 32 (by decide) (fun n a b => by rw [IntKind.wrap_u32]; omega) 16 (by decide) s h0 h1
theorem or_join (b a : Int) (h0 : 0 ≤ b) (h1 : b < 65536) (h2 : 0 ≤ a) (h3 : a < 65536) : Go.bits .or .u64 (b * 65536) a = b * 65536 + a := by
  refine bits_join .u64 32 (by decide) (fun n a b => ?_) 16 (b * 65536) a ?_ ?_ ?_ h2 ?_ ?_
  · have b' : n < 4294967296 := b
    rw [IntKind.wrap_u64]; omega
  · omega
  · show b * 65536 % 65536 = 0
    omega
  · show b * 65536 < 4294967296
    omega
  · exact h3
  · show a < 4294967296
    omega

theorem rest32 (a : Int) (w : World) (h0 : 0 ≤ a) (h1 : a < 4294967296) :
    Calls Try.prog 167 #[.int .u32 a] w fun e w' => e = .returned (.int .u64 (a % 65521)) ∧ w = w' := by
  go_enter Try.func167, Try.ntmps167
  go_wp2
  go_ret
  exact ⟨rfl, rfl⟩
theorem rest64 (a : Int) (w : World) (h0 : 0 ≤ a) (h1 : a < 18446744073709551616) :
    Calls Try.prog 162 #[.int .u64 a] w fun e w' => e = .returned (.int .u64 (a % 65521)) ∧ w = w' := by
  go_enter Try.func162, Try.ntmps162
  go_wp2
  go_ret
  exact ⟨rfl, rfl⟩
theorem parts_any (s : Int) (w : World) (h0 : 0 ≤ s) (h1 : s < 4294967296) :
    Calls Try.prog 160 #[.int .u32 s] w fun e w' => e = .returned (.tuple #[.int .u64 (partA s), .int .u64 (partB s)]) ∧ w = w' := by
  have e1 := and_low s h0 h1
  go_enter Try.func160, Try.ntmps160
  go_wp2_with (go_at_call 167; refine (rest32 _ _ (by omega) (by omega)).mono ?_; rintro e w' ⟨rfl, rfl⟩)
  go_ret2
  exact ⟨rfl, rfl⟩
theorem join_any (a b : Int) (w : World) (h0 : 0 ≤ a) (h1 : a < 18446744073709551616) (h2 : 0 ≤ b) (h3 : b < 18446744073709551616) :
    Calls Try.prog 163 #[.int .u64 a, .int .u64 b] w fun e w' => e = .returned (.int .u32 (joinP a b)) ∧ w = w' := by
  have e1 := or_join (b % 65521) (a % 65521) (by omega) (by omega) (by omega) (by omega)
  go_enter Try.func163, Try.ntmps163
  go_wp2_with (go_at_call 162; refine (rest64 _ _ (by omega) (by omega)).mono ?_; rintro e w' ⟨rfl, rfl⟩)
  go_ret
  exact ⟨by unfold joinP; rfl, rfl⟩

/-- sum.More. -/
def moreF (s : Int) (l : List Int) : Int := joinP (mrun l 0 (partA s) (partB s)).1 (mrun l 0 (partA s) (partB s)).2

theorem box_ne {W : World} {b b' : Nat} (h : b ≠ b') : (⟨b, 0, none⟩ : Addr) ≠ ⟨b', 0, none⟩ := fun e => h (by cases e; rfl)

set_option maxHeartbeats 4000000 in
set_option maxRecDepth 100000 in
theorem more_any (s : Int) (A : Option Addr) (c : Nat) (l : List Int) (w : World) (hr : Kd.C (Kd.int .u8) w A l.length l) (hB : areBytes l = true) (h0 : 0 ≤ s) (h1 : s < 4294967296) :
    Calls Try.prog 142 #[.int .u32 s, .slice A l.length c] w fun e w' => e = .returned (.int .u32 (moreF s l)) ∧ Below w.heap.size w w' := by
  have hmf : ∀ (fn : Fn) (first cap : Array Value) (w : World), (Instr.makeFunc fn first cap).run Try.prog w = .ok (.func fn first cap) w := fun _ _ _ _ => rfl
  have hlen : l.length ≤ 9223372036854775807 := hr.2.1
  have HR := Lib.hid hr
  have HB := Lib.hid hB
  clear hr hB
  go_enter Try.func142, Try.ntmps142
  go_wp2_with (go_at_call 160; refine (parts_any _ _ (by omega) (by omega)).mono ?_; rintro e w' ⟨rfl, rfl⟩)
  have hs0 : mbd 0 (partA s) (partB s) := by unfold mbd partA partB; omega
  go_loopw [18] (fun i wr => ∃ (k : Nat) (x y : Int), k ≤ l.length ∧ i = .int .i64 k ∧ mbd k x y ∧ Hid (mrun (l.drop k) k x y = mrun l 0 (partA s) (partB s)) ∧ Boxed wr w.heap.size 90 (.int .u64 x) ∧ Boxed wr (w.heap.size + 1) 90 (.int .u64 y) ∧ Below w.heap.size w wr)
    (fun i _ => l.length - (intOf i).toNat)
  case atStart =>
    refine ⟨0, _, _, Nat.zero_le _, rfl, hs0, Lib.hid rfl, (Boxed.new w _ _).alloc _, ?_, ((Below.refl _ _).alloc (Nat.le_refl _) _).alloc (by simp) _⟩
    have := Boxed.new (w.alloc (.cells #[.int .u64 (partA s)] 90)) 90 (.int .u64 (partB s))
    rwa [World.size_alloc] at this
  case round =>
    clear hs0
    obtain ⟨k, x, y, hk, rfl, hbd, hrun, hx, hy, hbel⟩ := hrel
    have cx := hx.cell
    have fx := hx.frozen
    have cy := hy.cell
    have fy := hy.frozen
    by_cases hlt : k < l.length
    · obtain ⟨ad, rfl, hcell⟩ := Kd.at_int (Kd.C_below HR.out (by simpa using hbel)) (k : Int) (by omega) (by omega)
      obtain ⟨hc0, hc1⟩ := areBytes_get HB.out hlt
      have hrd : rd l (k : Int) = l.getD k 0 := rfl
      rw [hrd, Int.toNat_natCast] at hcell
      have hn := mbd_next hbd hc0 hc1
      have hrn := mrun_at hlt x y
      obtain ⟨v, hv⟩ : ∃ v, l.getD k 0 = v := ⟨_, rfl⟩
      rw [hv] at hcell hc0 hc1 hn hrn
      clear hrd hv
      have hx0 : 0 ≤ x ∧ x ≤ 1000000 ∧ 0 ≤ y ∧ y ≤ 1000000000 := by unfold mbd at hbd; omega
      obtain ⟨hx0, hx1, hy0, hy1⟩ := hx0
      have HN := Lib.hid hn
      have HRN := Lib.hid hrn
      clear hn hrn hbd
      by_cases h9 : k % 1000 = 999
      · have hd9 : ((k : Int) % 1000 == 999) = true := by rw [beq_iff_eq]; omega
        go_wp2_with (go_at_call 161; refine (add_any _ _ _ _ _ _ (by omega) hx hy hx0 hx1 hy0 hy1 hc0 hc1).mono ?_; rintro e w' ⟨rfl, rfl⟩)
        have hnn : w.heap.size ≠ w.heap.size + 1 := by omega
        have ix := (hx.set (.int .u64 (x + v))).other hnn (.int .u64 (y + (x + v)))
        have iy := (hy.other hnn.symm (.int .u64 (x + v))).set (.int .u64 (y + (x + v)))
        have hbel2 := (hbel.setCell (p := ⟨w.heap.size, 0, none⟩) (Nat.le_refl _) (.int .u64 (x + v))).setCell (p := ⟨w.heap.size + 1, 0, none⟩) (by simp) (.int .u64 (y + (x + v)))
        obtain ⟨W2, hW2⟩ : ∃ W2, (wr.setCell ⟨w.heap.size, 0, none⟩ (.int .u64 (x + v))).setCell ⟨w.heap.size + 1, 0, none⟩ (.int .u64 (y + (x + v))) = W2 := ⟨_, rfl⟩
        rw [hW2] at ix iy hbel2 ⊢
        clear hW2 cx cy fx fy hx hy hbel
        have cx := ix.cell
        have fx := ix.frozen
        have cy := iy.cell
        have fy := iy.frozen
        go_still_tail 4, (by kernel_rfl)
        still_call ((rest64 _ _ (by omega) (by omega)).mono (fun _ _ h => ⟨h.1, h.2.symm⟩))
        repeat still_step
        still_call ((rest64 _ _ (by omega) (by omega)).mono (fun _ _ h => ⟨h.1, h.2.symm⟩))
        refine wpStill_nil ?_
        change wpList _ _ _ _ _ W2.drew
        have hbel3 := hbel2.drew
        have jx : Boxed W2.drew w.heap.size 90 (.int .u64 (x + v)) := ix
        have jy : Boxed W2.drew (w.heap.size + 1) 90 (.int .u64 (y + (x + v))) := iy
        clear cx cy fx fy ix iy hbel2
        generalize W2.drew = W3 at *
        have cx := jx.cell
        have fx := jx.frozen
        have cy := jy.cell
        have fy := jy.frozen
        go_wp2
        go_roundw
        case rel =>
          refine ⟨k + 1, _, _, by omega, by go_num, HN.out, Lib.hid (HRN.out.symm.trans hrun.out), ?_, ?_, (hbel3.setCell (Nat.le_refl _) _).setCell (by simp) _⟩
          · rw [mstep, if_pos h9]; exact (jx.set _).other hnn _
          · rw [mstep, if_pos h9]; exact (jy.other hnn.symm _).set _
        case measure => simp [intOf]; omega
      · have hd9 : ((k : Int) % 1000 == 999) = false := by rw [beq_eq_false_iff_ne]; omega
        go_wp2_with (go_at_call 161; refine (add_any _ _ _ _ _ _ (by omega) hx hy hx0 hx1 hy0 hy1 hc0 hc1).mono ?_; rintro e w' ⟨rfl, rfl⟩)
        go_roundw
        case rel =>
          have hnn : w.heap.size ≠ w.heap.size + 1 := by omega
          refine ⟨k + 1, _, _, by omega, by go_num, HN.out, Lib.hid (HRN.out.symm.trans hrun.out), ?_, ?_, (hbel.setCell (Nat.le_refl _) _).setCell (by simp) _⟩
          · rw [mstep, if_neg h9]; exact (hx.set _).other hnn _
          · rw [mstep, if_neg h9]; exact (hy.other hnn.symm _).set _
        case measure => simp [intOf]; omega
    · obtain rfl : k = l.length := by omega
      go_wp2_with (go_at_call 163; refine (join_any _ _ _ (by unfold mbd at hbd; omega) (by unfold mbd at hbd; omega) (by unfold mbd at hbd; omega) (by unfold mbd at hbd; omega)).mono ?_; rintro e w' ⟨rfl, rfl⟩)
      go_ret
      refine ⟨?_, hbel⟩
      have := hrun.out
      rw [List.drop_length] at this
      unfold moreF
      rw [← this]; rfl

/-! ### The form in which the texts written by wip/tools/ppatch.py call it -/
def sum_More.f (a0 : Int) (l1 : List Int) : Option Int := if areBytes l1 = true ∧ 0 ≤ a0 ∧ a0 < 4294967296 then some (moreF a0 l1) else none
theorem sum_More.calls (a0 : Int) (A1 : Option Addr) (c1 : Nat) (l1 : List Int) (r : Int) (w : World) (hr1 : Kd.C (Kd.int .u8) w A1 l1.length l1) (_hc1 : l1.length ≤ c1) (h : sum_More.f a0 l1 = some r) :
    Calls Try.prog 142 #[.int .u32 a0, .slice A1 l1.length c1] w fun e w' => e = .returned (.int .u32 r) ∧ Below w.heap.size w w' := by
  unfold sum_More.f at h
  split at h
  · rename_i hc
    obtain rfl := Option.some.inj h
    exact more_any a0 A1 c1 l1 w hr1 hc.1 hc.2.1 hc.2.2
  · cases h

end Go.Proofs.Ytmbnjgnmblgjoaa.Man
